import Derived.Test.YtlbnbginippjfaaEpW
import Derived.Test.YtlbnbginippjfaaEpK
namespace Go.Proofs.Ytlbnbginippjfaa
open Go.RowKit Go.Shelf Fk
attribute [local go_sem] Oper.semAt_some

theorem bcell {W w1 : World} (hb : Below W.heap.size W w1) : (∀ b o, b < W.heap.size → w1.cell? ⟨b, o, none⟩ = W.cell? ⟨b, o, none⟩) ∧ (∀ b o, b < W.heap.size → w1.frozen? ⟨b, o, none⟩ = W.frozen? ⟨b, o, none⟩) :=
  ⟨fun b o h => hb.cell (p := ⟨b, o, none⟩) h, fun b o h => hb.frozen (p := ⟨b, o, none⟩) h⟩

theorem EpS.keep {w w' : World} {b off : Nat} {l : List Ep} (h : EpS w b off l) (hk : w'.heap[b]? = w.heap[b]?) : EpS w' b off l := fun i hi => by
  obtain ⟨h1, h2, h3⟩ := h i hi
  refine ⟨?_, ?_, ?_⟩ <;> refine (World.cell?_of_block (w := w) hk).trans ?_ <;> assumption

def epV (x : Ep) : Value := .agg #[.int .i64 x.o, .int .i64 x.f, .int .i64 x.k]

set_option maxHeartbeats 1000000 in
theorem of_seq (l : List Ep) (o : Int) (b off c : Nat) (bl bo K : Nat) (B0 : Nat) (hK : bl < K ∧ bo < K ∧ B0 ≤ K) (hb : b < B0) (hl : l.length ≤ 9223372036854775807) (m : Nat) (hm : 1 ≤ m) :
    SeqL Fence.wide m Try.prog 67 #[.pointer (some ⟨bl, 0, none⟩), .pointer (some ⟨bo, 0, none⟩)] ((ofL l o).map fun x => #[epV x])
      (fun _ => False) (fun r => r = bl ∨ r = bo ∨ r < B0) (fun W => Boxed W bl 77 (.slice (some ⟨b, off, none⟩) l.length c) ∧ Boxed W bo 3 (.int .i64 o) ∧ EpS W b off l) K := fun L J Jx W hT hK' hJ hJx hY h0 => by
  refine callsIn_of_wp Try.func67 rfl trivial ?_ rfl
  simp only [Try.ntmps67, List.size_toArray, List.length_cons, List.length_nil, Nat.reduceAdd, Nat.reduceSub, Array.replicate_succ, Array.replicate_zero, List.push_toArray, List.append_toArray, List.nil_append, List.cons_append]
  have c1 := hT.1.cell
  gi_wp2
  gi_loopw [5, 8] (fun _ i wr => ∃ k : Nat, i = .int .i64 k ∧ k ≤ l.length ∧ J (ofL (l.take k) o).length wr ∧ SameOn (fun r => r = bl ∨ r = bo ∨ r < B0) W wr ∧ K ≤ wr.heap.size) (fun _ i wr => l.length - (intOf i).toNat)
  case atStart => exact ⟨0, rfl, Nat.zero_le _, h0, SameOn.refl _ _, by omega⟩
  case round =>
    obtain ⟨k, rfl, hk, hJk, hS, hKw⟩ := hrel
    by_cases hlt : k < l.length
    · have hE : EpS wr b off l := hT.2.2.keep (hS b (.inr (.inr hb)))
      have hO : Boxed wr bo 3 (.int .i64 o) := (hS bo (.inr (.inl rfl))).trans hT.2.1
      obtain ⟨d1, d2, d3⟩ := hE k hlt
      have d4 : ∀ x, (wr.alloc x).cell? ⟨bo, 0, none⟩ = some (.int .i64 o) := fun x => (hO.alloc x).cell
      have hts := take_snocD hlt
      have hnx := fun h => ofL_next (o := o) hlt h
      obtain ⟨x, hx⟩ : ∃ x, l.getD k default = x := ⟨_, rfl⟩
      rw [hx] at d1 d2 d3 hts hnx
      clear hx c1
      by_cases ho : (x.o == o) = true
      · have hv : ((ofL l o).map fun x => (#[epV x] : Array Value))[(ofL (l.take k) o).length]? = some #[epV x] := by rw [List.getElem?_map, hnx ho]; rfl
        have hln : (ofL (l.take (k + 1)) o).length = (ofL (l.take k) o).length + 1 := by rw [hts, ofL_snoc, if_pos ho]; simp
        have hJn : J (ofL (l.take k) o).length (wr.alloc (.cells #[.int .i64 x.o, .int .i64 x.f, .int .i64 x.k] 76)) := hJ.new _ hJk
        obtain ⟨fn, tmps, assign, body, hy, hR⟩ := hY _ _ _ hJn (by simp; omega) hv
        unfold epV at hy
        have HL := Lib.hid hln
        have HV := Lib.hid hv
        clear hln hts hnx hv hJn
        gi_wp2
        refine hR.mono ?_
        rintro e W3 (⟨rfl, hJ3, hS3, hz3⟩ | ⟨rfl, hJx3⟩)
        · gi_wp2
          refine ⟨⟨k + 1, by go_num, by omega, by rw [HL.out]; exact hJ3, ?_, ?_⟩, by simp [intOf]; omega⟩
          · intro r hr
            refine (hS3 r hr).trans ((Below.heap_alloc _ _ r ?_).trans (hS r hr))
            rcases hr with h | h | h <;> omega
          · simp at hz3; omega
        · gi_wp2
          refine bodyPost_ret (results_none rfl _ _ _) rfl ?_
          refine ⟨⟨_, rfl⟩, .inr ⟨_, ?_, hJx3⟩⟩
          rw [List.length_map]
          have := HV.out
          rw [List.getElem?_map] at this
          obtain ⟨y, hy, _⟩ := Option.map_eq_some_iff.1 this
          exact (List.getElem?_eq_some_iff.1 hy).1
      · have ho' : (x.o == o) = false := by simpa using ho
        have hln : (ofL (l.take (k + 1)) o).length = (ofL (l.take k) o).length := by rw [hts, ofL_snoc, if_neg ho]
        have HL := Lib.hid hln
        clear ho hln hts hnx
        gi_wp2
        refine ⟨fun _ h => (by cases h), ?_⟩
        gi_wp2
        refine ⟨⟨k + 1, by go_num, by omega, by rw [HL.out]; exact hJ.new _ hJk, ?_, ?_⟩, by simp [intOf]; omega⟩
        · intro r hr
          refine (Below.heap_alloc _ _ r ?_).trans (hS r hr)
          rcases hr with h | h | h <;> omega
        · simp; omega
    · obtain rfl : k = l.length := by omega
      rw [List.take_length] at hJk
      clear c1
      gi_wp2
      go_end0
      exact ⟨⟨_, rfl⟩, .inl (by rw [List.length_map]; exact hJk)⟩

set_option maxHeartbeats 400000 in
theorem of_seq_nil (A : Option Addr) (c : Nat) (bl bo K : Nat) (Y : Nat → Prop) (m : Nat) :
    SeqL Fence.wide m Try.prog 67 #[.pointer (some ⟨bl, 0, none⟩), .pointer (some ⟨bo, 0, none⟩)] []
      (fun _ => False) Y (fun W => Boxed W bl 77 (.slice A 0 c)) K := fun L J Jx W hT hK' hJ hJx hY h0 => by
  refine callsIn_of_wp Try.func67 rfl trivial ?_ rfl
  simp only [Try.ntmps67, List.size_toArray, List.length_cons, List.length_nil, Nat.reduceAdd, Nat.reduceSub, Array.replicate_succ, Array.replicate_zero, List.push_toArray, List.append_toArray, List.nil_append, List.cons_append]
  have c1 := hT.cell
  gi_wp2
  refine wpIn_loop_rounds 1 ?_
  rw [roundsIn_succ]
  gi_wp2
  go_end0
  exact ⟨⟨_, rfl⟩, .inl h0⟩

/-- a slice value that reads as epochs, which lie below block B0 -/
def SlEp (w : World) (B0 : Nat) (v : Value) (l : List Ep) : Prop := l.length ≤ 9223372036854775807 ∧ ∃ (A : Option Addr) (c : Nat), v = .slice A l.length c ∧ (0 < l.length → ∃ b off, A = some ⟨b, off, none⟩ ∧ b < B0 ∧ EpS w b off l)
theorem SlEp.keep {w w' : World} {B0 : Nat} {v : Value} {l : List Ep} (h : SlEp w B0 v l) (hk : ∀ b, b < B0 → w'.heap[b]? = w.heap[b]?) : SlEp w' B0 v l := by
  obtain ⟨hl, A, c, rfl, h⟩ := h
  refine ⟨hl, A, c, rfl, fun hp => ?_⟩
  obtain ⟨b, off, rfl, hb, hE⟩ := h hp
  exact ⟨b, off, rfl, hb, hE.keep (hk b hb)⟩
theorem SlEp.below {w w' : World} {B0 : Nat} {v : Value} {l : List Ep} (h : SlEp w B0 v l) (hb : Below B0 w w') : SlEp w' B0 v l := h.keep hb.block

theorem of_seq_any (l : List Ep) (v : Value) (o : Int) (bl bo K B0 : Nat) (hK : bl < K ∧ bo < K ∧ B0 ≤ K) (m : Nat) (hm : 1 ≤ m) :
    SeqL Fence.wide m Try.prog 67 #[.pointer (some ⟨bl, 0, none⟩), .pointer (some ⟨bo, 0, none⟩)] ((ofL l o).map fun x => #[epV x])
      (fun _ => False) (fun r => r = bl ∨ r = bo ∨ r < B0) (fun W => Boxed W bl 77 v ∧ Boxed W bo 3 (.int .i64 o) ∧ SlEp W B0 v l) K := fun L J Jx W hT => by
  obtain ⟨h1, h2, hl, A, c, rfl, h3⟩ := hT
  by_cases hp : 0 < l.length
  · obtain ⟨b, off, rfl, hb, hE⟩ := h3 hp
    exact of_seq l o b off c bl bo K B0 hK hb hl m hm L J Jx W ⟨h1, h2, hE⟩
  · obtain rfl : l = [] := List.eq_nil_of_length_eq_zero (by omega)
    exact of_seq_nil A c bl bo K _ m L J Jx W h1

set_option maxHeartbeats 400000 in
theorem of_any (A : Option Addr) (n c : Nat) (o : Int) (w : World) :
    Calls Try.prog 63 #[.slice A n c, .int .i64 o] w fun e w' => e = .returned (.func (.func 67) #[] #[.pointer (some ⟨w.heap.size, 0, none⟩), .pointer (some ⟨w.heap.size + 1, 0, none⟩)]) ∧
      (w.alloc (.cells #[.slice A n c] 77)).alloc (.cells #[.int .i64 o] 3) = w' := by
  go_enter Try.func63, Try.ntmps63
  go_wp2
  go_ret
  exact ⟨rfl, rfl⟩

set_option maxHeartbeats 400000 in
theorem epcheck_nil (A : Option Addr) (c : Nat) (w : World) :
    Calls Try.prog 56 #[.slice A 0 c] w fun e w' => e = .returned (.int .i64 0) ∧ Below w.heap.size w w' := by
  go_enter Try.func56, Try.ntmps56
  go_wp2
  refine wp_loop_rounds 1 ?_
  rw [rounds_succ]
  go_wp2
  go_ret
  exact ⟨rfl, Below.refl _ _⟩
set_option maxHeartbeats 400000 in
theorem epcheck_long (A : Option Addr) (n c : Nat) (hn : 256 < n) (w : World) :
    Calls Try.prog 56 #[.slice A n c] w fun e w' => e = .returned (.int .i64 2) ∧ Below w.heap.size w w' := by
  go_enter Try.func56, Try.ntmps56
  go_wp2
  go_ret
  exact ⟨rfl, Below.refl _ _⟩
theorem epcheck_any (l : List Ep) (v : Value) (w : World) (B0 : Nat) (hB : B0 ≤ w.heap.size) (h : SlEp w B0 v l) :
    Calls Try.prog 56 #[v] w fun e w' => e = .returned (.int .i64 (chkE l)) ∧ Below w.heap.size w w' := by
  obtain ⟨hl, A, c, rfl, h3⟩ := h
  by_cases hlong : 256 < l.length
  · rw [chkE_long hlong]; exact epcheck_long A _ c hlong w
  by_cases hp : 0 < l.length
  · obtain ⟨b, off, rfl, hb, hE⟩ := h3 hp
    exact epcheck_in l b off c w (by omega) hE hlong hp
  · obtain rfl : l = [] := List.eq_nil_of_length_eq_zero (by omega)
    rw [chkE_good hlong (fun i hi => absurd hi (by simp))]
    exact epcheck_nil A c w
end Go.Proofs.Ytlbnbginippjfaa
