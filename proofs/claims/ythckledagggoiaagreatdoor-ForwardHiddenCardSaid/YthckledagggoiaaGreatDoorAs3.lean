import Derived.Test.YthckledagggoiaaGreatDoorMh
import Derived.Test.YthckledagggoiaaGreatDoorAs2
set_option linter.unusedSimpArgs false
set_option linter.unusedVariables false
namespace Go.Proofs.YthckledagggoiaaGreatDoor
open Go.RowKit Go.MapKept Go.Shelf Fk
attribute [local go_sem] Oper.semAt_some
/-! aliases.living -/
/-- does a person live at an office? -/
def livB (l : List En) (office day time p : Int) : Bool := decide (whereH l p day time = (1, p, office))
def livK (l : List En) (office day time : Int) (n : Nat) : List Int := ((List.range n).filter fun (p : Nat) => livB l office day time (p : Int)).map fun (p : Nat) => (p : Int)
theorem livK_succ (l : List En) (office day time : Int) (n : Nat) : livK l office day time (n + 1) = if livB l office day time (n : Int) then livK l office day time n ++ [(n : Int)] else livK l office day time n := by
  unfold livK
  rw [List.range_succ, List.filter_append, List.filter_cons, List.filter_nil]
  cases livB l office day time (n : Int) <;> simp
theorem livK_pre (l : List En) (office day time : Int) {k n : Nat} (h : k ≤ n) : ∃ r, livK l office day time n = livK l office day time k ++ r := by
  induction n with
  | zero => obtain rfl : k = 0 := by omega
            exact ⟨[], by simp⟩
  | succ n ih =>
    by_cases hk : k = n + 1
    · subst hk; exact ⟨[], by simp⟩
    · obtain ⟨r, hr⟩ := ih (by omega)
      rw [livK_succ, hr]
      split
      · exact ⟨r ++ [(n : Int)], by simp⟩
      · exact ⟨r, rfl⟩
theorem livK_next (l : List En) (office day time : Int) {k n : Nat} (h : k < n) (hb : livB l office day time (k : Int) = true) : (livK l office day time n)[(livK l office day time k).length]? = some (k : Int) := by
  obtain ⟨r, hr⟩ := livK_pre l office day time (show k + 1 ≤ n by omega)
  rw [hr, livK_succ, if_pos hb]
  simp
set_option maxHeartbeats 400000 in
theorem living_any (A : Option Addr) (q c : Nat) (n office day time : Int) (w : World) :
    Calls Tryz.prog 77 #[.slice A q c, .int .i64 n, .int .i64 office, .int .i64 day, .int .i64 time] w fun e w' => e = .returned (.func (.func 127) #[] #[.pointer (some ⟨w.heap.size + 1, 0, none⟩), .pointer (some ⟨w.heap.size, 0, none⟩), .pointer (some ⟨w.heap.size + 3, 0, none⟩), .pointer (some ⟨w.heap.size + 4, 0, none⟩), .pointer (some ⟨w.heap.size + 2, 0, none⟩)]) ∧
      ((((w.alloc (.cells #[.slice A q c] 26)).alloc (.cells #[.int .i64 n] 3)).alloc (.cells #[.int .i64 office] 3)).alloc (.cells #[.int .i64 day] 3)).alloc (.cells #[.int .i64 time] 3) = w' := by
  go_enter Tryz.func77, Tryz.ntmps77
  go_wp2
  go_ret
  exact ⟨rfl, rfl⟩
set_option maxRecDepth 100000 in
set_option maxHeartbeats 4000000 in
theorem living_seq (l : List En) (v : Value) (n : Nat) (office day time : Int) (hn : n ≤ 1024) (bn bl bd bt bo K B0 : Nat) (hK : bn < K ∧ bl < K ∧ bd < K ∧ bt < K ∧ bo < K ∧ B0 ≤ K) (m : Nat) (hm : 1 ≤ m) :
    SeqL Fence.wide m Tryz.prog 127 #[.pointer (some ⟨bn, 0, none⟩), .pointer (some ⟨bl, 0, none⟩), .pointer (some ⟨bd, 0, none⟩), .pointer (some ⟨bt, 0, none⟩), .pointer (some ⟨bo, 0, none⟩)] ((livK l office day time n).map fun p => #[.int .i64 p])
      (fun _ => False) (fun r => r = bn ∨ r = bl ∨ r = bd ∨ r = bt ∨ r = bo ∨ r < B0) (fun W => Boxed W bn 3 (.int .i64 n) ∧ Boxed W bl 26 v ∧ Boxed W bd 3 (.int .i64 day) ∧ Boxed W bt 3 (.int .i64 time) ∧ Boxed W bo 3 (.int .i64 office) ∧ SlE W B0 v l) K := fun L J Jx W hT hK' hJ hJx hY h0 => by
  obtain ⟨hT1, hT2, hT3, hT4, hT5, hT6⟩ := hT
  have HS := Lib.hid hT6
  refine callsIn_of_wp Tryz.func127 rfl trivial ?_ rfl
  simp only [Tryz.ntmps127, List.size_toArray, List.length_cons, List.length_nil, Nat.reduceAdd, Nat.reduceSub, Array.replicate_succ, Array.replicate_zero, List.push_toArray, List.append_toArray, List.nil_append, List.cons_append]
  have c1 := hT1.cell
  gi_wp2
  gi_loopw [11] (fun i wr => ∃ k : Nat, i = .int .i64 k ∧ k ≤ n ∧ J (livK l office day time k).length wr ∧ SameOn (fun r => r = bn ∨ r = bl ∨ r = bd ∨ r = bt ∨ r = bo ∨ r < B0) W wr ∧ K ≤ wr.heap.size) (fun i wr => n - (intOf i).toNat)
  case atStart => exact ⟨0, rfl, Nat.zero_le _, h0, SameOn.refl _ _, by omega⟩
  case round =>
    obtain ⟨k, rfl, hk, hJk, hS, hKw⟩ := hrel
    have hsz : ∀ r, (r = bn ∨ r = bl ∨ r = bd ∨ r = bt ∨ r = bo ∨ r < B0) → r < K := fun r hr => by rcases hr with h | h | h | h | h | h <;> omega
    by_cases hlt : k < n
    · have q2 : Boxed wr bl 26 v := (hS bl (.inr (.inl rfl))).trans hT2
      have q3 : Boxed wr bd 3 (.int .i64 day) := (hS bd (.inr (.inr (.inl rfl)))).trans hT3
      have q4 : Boxed wr bt 3 (.int .i64 time) := (hS bt (.inr (.inr (.inr (.inl rfl))))).trans hT4
      have q5 : Boxed wr bo 3 (.int .i64 office) := (hS bo (.inr (.inr (.inr (.inr (.inl rfl)))))).trans hT5
      have hSl : SlE wr wr.heap.size v l := (HS.out.keep (fun r hr => hS r (.inr (.inr (.inr (.inr (.inr hr))))))).mono (by omega)
      have hw := where_any l v k day time wr hSl
      have d2 := q2.cell
      have d3 := q3.cell
      have d4 := q4.cell
      have t1 : decide ((k : Int) < n) = true := decide_eq_true (by omega)
      obtain ⟨⟨a, b, c⟩, ht⟩ : ∃ t, whereH l k day time = t := ⟨_, rfl⟩
      obtain ⟨E, hE⟩ : ∃ E, openE l k day time = E := ⟨_, rfl⟩
      rw [ht, hE] at hw
      have hsn := livK_succ l office day time k
      have hlb : livB l office day time k = decide (a = 1 ∧ b = k ∧ c = office) := by unfold livB; rw [ht]; simp only [Prod.mk.injEq]
      have hnx := fun h => livK_next l office day time hlt h
      rw [hlb] at hsn hnx
      have HW := Lib.hid hw
      have HSN := Lib.hid hsn
      have HNX := Lib.hid hnx
      have HJ := Lib.hid hJk
      clear hw ht hE hsn hlb hnx hSl hJk c1
      have fin : ∀ w2, Below wr.heap.size wr w2 → Boxed w2 bo 3 (.int .i64 office) ∧ (∀ o, J (livK l office day time k).length (w2.alloc o)) ∧ SameOn (fun r => r = bn ∨ r = bl ∨ r = bd ∨ r = bt ∨ r = bo ∨ r < B0) W w2 ∧ K ≤ w2.heap.size := fun w2 hb => by
        refine ⟨(hb.block _ (by omega)).trans q5, fun o => hJ.new _ (hJ _ _ _ none HJ.out (grown_below' hb none) (fun r e => by cases e)), fun r hr => (hb.block r (by have := hsz r hr; omega)).trans (hS r hr), by have := hb.size; omega⟩
      have FIN := Lib.hid fin
      clear fin q2 q3 q4 q5
      by_cases hh : a = 1 ∧ b = k ∧ c = office
      · have hv : ((livK l office day time n).map fun p => (#[.int .i64 p] : Array Value))[(livK l office day time k).length]? = some #[.int .i64 (k : Int)] := by rw [List.getElem?_map, HNX.out (by simpa using hh)]; rfl
        have hln : (livK l office day time (k + 1)).length = (livK l office day time k).length + 1 := by rw [HSN.out, if_pos (by simpa using hh)]; simp
        obtain ⟨rfl, rfl, rfl⟩ := hh
        have hyy : ∀ w2, Below wr.heap.size wr w2 → _ := fun w2 hb => hY _ _ (w2.alloc (.cells #[.int .i64 1, .int .i64 k, .int .i64 c] 30)) ((FIN.out w2 hb).2.1 _) (by have := (FIN.out w2 hb).2.2.2; simp; omega) hv
        have HYY := Lib.hid hyy
        have HL := Lib.hid hln
        have HV := Lib.hid hv
        clear hyy hln hv
        gi_wp2_with (refine ⟨trivial, ?_⟩; gi_at_call 40; refine (callsIn_wide.2 HW.out).mono ?_; rintro e w2 ⟨rfl, hb⟩; obtain ⟨b5, hJ2, hS2, hK2⟩ := FIN.out w2 hb; have c5 := (b5.alloc (.cells #[.int .i64 1, .int .i64 k, .int .i64 c] 30)).cell; obtain ⟨fn, tmps, assign, body, hy, hR⟩ := HYY.out w2 hb)
        refine hR.mono ?_
        rintro e W3 (⟨rfl, hJ3, hS3, hz3⟩ | ⟨rfl, hJx3⟩)
        · gi_wp2
          refine ⟨⟨k + 1, by go_num, by omega, by rw [HL.out]; exact hJ3, ?_, ?_⟩, by simp [intOf]; omega⟩
          · intro r hr
            exact (hS3 r hr).trans ((Below.heap_alloc _ _ r (by have := hsz r hr; omega)).trans (hS2 r hr))
          · simp at hz3; omega
        · gi_wp2
          refine bodyPost_ret (results_none rfl _ _ _) rfl ?_
          refine ⟨⟨_, rfl⟩, .inr ⟨_, ?_, hJx3⟩⟩
          exact (List.getElem?_eq_some_iff.1 HV.out).1
      · have HH := Lib.hid hh
        by_cases h1 : a = 1
        · by_cases h2 : b = k
          · have h3 : ¬ c = office := fun h => hh ⟨h1, h2, h⟩
            subst h1 h2
            clear hh
            gi_wp2_with (refine ⟨trivial, ?_⟩; gi_at_call 40; refine (callsIn_wide.2 HW.out).mono ?_; rintro e w2 ⟨rfl, hb⟩; obtain ⟨b5, hJ2, hS2, hK2⟩ := FIN.out w2 hb; have c5 := (b5.alloc (.cells #[.int .i64 1, .int .i64 k, .int .i64 c] 30)).cell)
            refine ⟨fun _ h => (by cases h), ?_⟩
            gi_wp2
            refine ⟨⟨k + 1, by go_num, by omega, by rw [HSN.out, if_neg (by simpa using HH.out)]; exact hJ2 _, fun r hr => (Below.heap_alloc _ _ r (by have := hsz r hr; omega)).trans (hS2 r hr), by simp; omega⟩, by simp [intOf]; omega⟩
          · subst h1
            clear hh
            gi_wp2_with (refine ⟨trivial, ?_⟩; gi_at_call 40; refine (callsIn_wide.2 HW.out).mono ?_; rintro e w2 ⟨rfl, hb⟩; obtain ⟨b5, hJ2, hS2, hK2⟩ := FIN.out w2 hb; have c5 := (b5.alloc (.cells #[.int .i64 1, .int .i64 b, .int .i64 c] 30)).cell)
            refine ⟨fun _ h => (by cases h), ?_⟩
            gi_wp2
            refine ⟨⟨k + 1, by go_num, by omega, by rw [HSN.out, if_neg (by simpa using HH.out)]; exact hJ2 _, fun r hr => (Below.heap_alloc _ _ r (by have := hsz r hr; omega)).trans (hS2 r hr), by simp; omega⟩, by simp [intOf]; omega⟩
        · clear hh
          gi_wp2_with (refine ⟨trivial, ?_⟩; gi_at_call 40; refine (callsIn_wide.2 HW.out).mono ?_; rintro e w2 ⟨rfl, hb⟩; obtain ⟨b5, hJ2, hS2, hK2⟩ := FIN.out w2 hb; have c5 := (b5.alloc (.cells #[.int .i64 a, .int .i64 b, .int .i64 c] 30)).cell)
          refine ⟨fun _ h => (by cases h), ?_⟩
          gi_wp2
          refine ⟨⟨k + 1, by go_num, by omega, by rw [HSN.out, if_neg (by simpa using HH.out)]; exact hJ2 _, fun r hr => (Below.heap_alloc _ _ r (by have := hsz r hr; omega)).trans (hS2 r hr), by simp; omega⟩, by simp [intOf]; omega⟩
    · obtain rfl : k = n := by omega
      clear c1
      gi_wp2
      go_end0
      exact ⟨⟨_, rfl⟩, .inl (by rw [List.length_map]; exact hJk)⟩
end Go.Proofs.YthckledagggoiaaGreatDoor
