import Derived.Test.YthckledagggoiaaGreatDoorPh
import Derived.Test.YthckledagggoiaaGreatDoorRg3
set_option linter.unusedSimpArgs false
set_option linter.unusedVariables false
namespace Go.Proofs.YthckledagggoiaaGreatDoor
open Go.RowKit Go.Shelf Fk
attribute [local go_sem] Oper.semAt_some
/-! The registry: the entries that count, one after the other. -/
def cntB (day time : Int) (x : En) : Bool := decide (x.from_ ≤ day) && (decide (day < x.until_) && (decide (x.known ≤ time) && decide (time < x.gone)))
def cntL (day time : Int) (l : List En) : List En := l.filter (cntB day time)
theorem cntL_snoc (day time : Int) (l : List En) (x : En) : cntL day time (l ++ [x]) = if cntB day time x then cntL day time l ++ [x] else cntL day time l := by
  unfold cntL
  rw [List.filter_append, List.filter_cons, List.filter_nil]
  cases cntB day time x <;> simp
theorem takeD {l : List En} {k : Nat} (h : k < l.length) : l.take (k + 1) = l.take k ++ [l.getD k default] := by
  rw [List.take_add_one, List.getD_eq_getElem?_getD, List.getElem?_eq_getElem h]; rfl
theorem cntL_next {day time : Int} {l : List En} {k : Nat} (h : k < l.length) (hc : cntB day time (l.getD k default) = true) : (cntL day time l)[(cntL day time (l.take k)).length]? = some (l.getD k default) := by
  have e : l = l.take k ++ (l.getD k default :: l.drop (k + 1)) := by
    rw [← drop_at h, List.take_append_drop]
  have e2 : cntL day time l = cntL day time (l.take k) ++ (l.getD k default :: cntL day time (l.drop (k + 1))) := by
    unfold cntL
    conv => lhs; rw [e]
    rw [List.filter_append, List.filter_cons, if_pos hc]
  rw [e2, List.getElem?_append_right (Nat.le_refl _), Nat.sub_self]; rfl
abbrev entV (x : En) : Array Value := #[En.val x]
set_option maxRecDepth 100000 in
set_option maxHeartbeats 4000000 in
theorem cnt_seq (l : List En) (v : Value) (day time : Int) (bl bd bt K : Nat) (B0 : Nat) (hK : bl < K ∧ bd < K ∧ bt < K ∧ B0 ≤ K) (m : Nat) (hm : 1 ≤ m) :
    SeqL Fence.wide m Tryz.prog 150 #[.pointer (some ⟨bl, 0, none⟩), .pointer (some ⟨bd, 0, none⟩), .pointer (some ⟨bt, 0, none⟩)] ((cntL day time l).map entV)
      (fun _ => False) (fun r => r = bl ∨ r = bd ∨ r = bt ∨ r < B0) (fun W => Boxed W bl 26 v ∧ Boxed W bd 3 (.int .i64 day) ∧ Boxed W bt 3 (.int .i64 time) ∧ SlE W B0 v l) K := fun L J Jx W hT hK' hJ hJx hY h0 => by
  obtain ⟨hT1, hT2, hT3, hT4⟩ := hT
  have HS := Lib.hid hT4
  obtain ⟨hl, A, c, rfl, _⟩ := hT4
  refine callsIn_of_wp Tryz.func150 rfl trivial ?_ rfl
  simp only [Tryz.ntmps150, List.size_toArray, List.length_cons, List.length_nil, Nat.reduceAdd, Nat.reduceSub, Array.replicate_succ, Array.replicate_zero, List.push_toArray, List.append_toArray, List.nil_append, List.cons_append]
  have c1 := hT1.cell
  gi_wp2
  gi_loopw [6, 9] (fun _ i wr => ∃ k : Nat, i = .int .i64 k ∧ k ≤ l.length ∧ J (cntL day time (l.take k)).length wr ∧ SameOn (fun r => r = bl ∨ r = bd ∨ r = bt ∨ r < B0) W wr ∧ K ≤ wr.heap.size) (fun _ i wr => l.length - (intOf i).toNat)
  case atStart => exact ⟨0, rfl, Nat.zero_le _, h0, SameOn.refl _ _, by omega⟩
  case round =>
    obtain ⟨k, rfl, hk, hJk, hS, hKw⟩ := hrel
    by_cases hlt : k < l.length
    · obtain ⟨b, off, rfl, hb, d0, d1, d2, d3, d4, d5, d6, d7⟩ := entry_cells (HS.out.keep (fun r hr => hS r (.inr (.inr (.inr hr))))) hlt
      have hD : Boxed wr bd 3 (.int .i64 day) := (hS bd (.inr (.inl rfl))).trans hT2
      have hM : Boxed wr bt 3 (.int .i64 time) := (hS bt (.inr (.inr (.inl rfl)))).trans hT3
      have e1 : ∀ x, (wr.alloc x).cell? ⟨bd, 0, none⟩ = some (.int .i64 day) := fun x => (hD.alloc x).cell
      have e2 : ∀ x, (wr.alloc x).cell? ⟨bt, 0, none⟩ = some (.int .i64 time) := fun x => (hM.alloc x).cell
      have hts := takeD hlt
      have hnx := fun h => cntL_next (day := day) (time := time) hlt h
      obtain ⟨x, hx⟩ : ∃ x, l.getD k default = x := ⟨_, rfl⟩
      rw [hx] at d0 d1 d2 d3 d4 d5 d6 d7 hts hnx
      have s1 : (0 : Int) ≤ k := by omega
      have s2 : (k : Int) < l.length := by omega
      have hzb : b < wr.heap.size := by omega
      clear hx c1
      cases ho : cntB day time x with
      | true =>
        have hv : ((cntL day time l).map entV)[(cntL day time (l.take k)).length]? = some (entV x) := by rw [List.getElem?_map, hnx ho]; rfl
        have hln : (cntL day time (l.take (k + 1))).length = (cntL day time (l.take k)).length + 1 := by rw [hts, cntL_snoc, if_pos ho]; simp
        have hJn : J (cntL day time (l.take k)).length (wr.alloc (.cells #[.int .i64 x.no, .int .i64 x.kind, .int .i64 x.a, .int .i64 x.b, .int .i64 x.from_, .int .i64 x.until_, .int .i64 x.known, .int .i64 x.gone] 49)) := hJ.new _ hJk
        obtain ⟨fn, tmps, assign, body, hy, hR⟩ := hY _ _ _ hJn (by simp; omega) hv
        unfold entV En.val at hy
        have HL := Lib.hid hln
        have HV := Lib.hid hv
        unfold cntB at ho
        simp only [Bool.and_eq_true, decide_eq_true_eq] at ho
        obtain ⟨o1, o2, o3, o4⟩ := ho
        clear hln hts hnx hv hJn
        gi_wp2
        refine hR.mono ?_
        rintro e W3 (⟨rfl, hJ3, hS3, hz3⟩ | ⟨rfl, hJx3⟩)
        · gi_wp2
          refine ⟨⟨k + 1, by go_num, by omega, by rw [HL.out]; exact hJ3, ?_, ?_⟩, by simp [intOf]; omega⟩
          · intro r hr
            refine (hS3 r hr).trans ((Below.heap_alloc _ _ r ?_).trans (hS r hr))
            rcases hr with h | h | h | h <;> omega
          · simp at hz3; omega
        · gi_wp2
          refine bodyPost_ret (results_none rfl _ _ _) rfl ?_
          refine ⟨⟨_, rfl⟩, .inr ⟨_, ?_, hJx3⟩⟩
          rw [List.length_map]
          have := HV.out
          rw [List.getElem?_map] at this
          obtain ⟨y, hy, _⟩ := Option.map_eq_some_iff.1 this
          exact (List.getElem?_eq_some_iff.1 hy).1
      | false =>
        have hln : (cntL day time (l.take (k + 1))).length = (cntL day time (l.take k)).length := by rw [hts, cntL_snoc, ho]; rfl
        have HL := Lib.hid hln
        clear hln hts hnx
        unfold cntB at ho
        by_cases o1 : x.from_ ≤ day
        · by_cases o2 : day < x.until_
          · by_cases o3 : x.known ≤ time
            · by_cases o4 : time < x.gone
              · rw [decide_eq_true o1, decide_eq_true o2, decide_eq_true o3, decide_eq_true o4] at ho; cases ho
              clear ho
              gi_wp2
              refine ⟨fun _ h => (by cases h), ?_⟩
              gi_wp2
              refine ⟨⟨k + 1, by go_num, by omega, by rw [HL.out]; exact hJ.new _ hJk, ?_, ?_⟩, by simp [intOf]; omega⟩
              · intro r hr
                refine (Below.heap_alloc _ _ r ?_).trans (hS r hr)
                rcases hr with h | h | h | h <;> omega
              · simp; omega
            clear ho
            gi_wp2
            refine ⟨fun _ h => (by cases h), ?_⟩
            gi_wp2
            refine ⟨⟨k + 1, by go_num, by omega, by rw [HL.out]; exact hJ.new _ hJk, ?_, ?_⟩, by simp [intOf]; omega⟩
            · intro r hr
              refine (Below.heap_alloc _ _ r ?_).trans (hS r hr)
              rcases hr with h | h | h | h <;> omega
            · simp; omega
          clear ho
          gi_wp2
          refine ⟨fun _ h => (by cases h), ?_⟩
          gi_wp2
          refine ⟨⟨k + 1, by go_num, by omega, by rw [HL.out]; exact hJ.new _ hJk, ?_, ?_⟩, by simp [intOf]; omega⟩
          · intro r hr
            refine (Below.heap_alloc _ _ r ?_).trans (hS r hr)
            rcases hr with h | h | h | h <;> omega
          · simp; omega
        clear ho
        gi_wp2
        refine ⟨fun _ h => (by cases h), ?_⟩
        gi_wp2
        refine ⟨⟨k + 1, by go_num, by omega, by rw [HL.out]; exact hJ.new _ hJk, ?_, ?_⟩, by simp [intOf]; omega⟩
        · intro r hr
          refine (Below.heap_alloc _ _ r ?_).trans (hS r hr)
          rcases hr with h | h | h | h <;> omega
        · simp; omega
    · obtain rfl : k = l.length := by omega
      rw [List.take_length] at hJk
      clear c1
      gi_wp2
      go_end0
      exact ⟨⟨_, rfl⟩, .inl (by rw [List.length_map]; exact hJk)⟩
set_option maxHeartbeats 400000 in
theorem counting_any (A : Option Addr) (n c : Nat) (day time : Int) (w : World) :
    Calls Tryz.prog 126 #[.slice A n c, .int .i64 day, .int .i64 time] w fun e w' => e = .returned (.func (.func 150) #[] #[.pointer (some ⟨w.heap.size, 0, none⟩), .pointer (some ⟨w.heap.size + 1, 0, none⟩), .pointer (some ⟨w.heap.size + 2, 0, none⟩)]) ∧
      ((w.alloc (.cells #[.slice A n c] 26)).alloc (.cells #[.int .i64 day] 3)).alloc (.cells #[.int .i64 time] 3) = w' := by
  go_enter Tryz.func126, Tryz.ntmps126
  go_wp2
  go_ret
  exact ⟨rfl, rfl⟩
end Go.Proofs.YthckledagggoiaaGreatDoor
