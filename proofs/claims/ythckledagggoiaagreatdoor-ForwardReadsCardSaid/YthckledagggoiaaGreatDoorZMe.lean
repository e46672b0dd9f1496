import Derived.Test.YthckledagggoiaaGreatDoorZMt
import Derived.Test.YthckledagggoiaaGreatDoorZPj
import GoSem.ClaimData
import Derived.Deep.RegionHeld3
import Derived.Deep.LoopGhost
import Derived.Tactics
import Derived.Tactics2
import Derived.StillTactics
import Derived.WalkKit
import Derived.Laws.Small
import Derived.Laws.StructEq
import Derived.Laws.Tables
import Derived.KernelRfl
/-! Letters in plain words: a cipher is two numbers, a letter three ciphers. -/
namespace Fk
open Go
structure Ci where
  a : Int
  b : Int
structure Se where
  x : Ci
  y : Ci
  z : Ci
structure Tr where
  p : Int
  q : Int
  r : Int
instance : Inhabited Ci := ⟨⟨0, 0⟩⟩
instance : Inhabited Se := ⟨⟨default, default, default⟩⟩
instance : Inhabited Tr := ⟨⟨0, 0, 0⟩⟩
def Ci.val (c : Ci) : Value := .agg #[.int .i64 c.a, .int .i64 c.b]
def Se.val (s : Se) : Value := .agg #[.int .i64 s.x.a, .int .i64 s.x.b, .int .i64 s.y.a, .int .i64 s.y.b, .int .i64 s.z.a, .int .i64 s.z.b]
def Tr.val (t : Tr) : Value := .agg #[.int .i64 t.p, .int .i64 t.q, .int .i64 t.r]
def Se.cells (s : Se) : List Value := [.int .i64 s.x.a, .int .i64 s.x.b, .int .i64 s.y.a, .int .i64 s.y.b, .int .i64 s.z.a, .int .i64 s.z.b]
def Tr.cells (t : Tr) : List Value := [.int .i64 t.p, .int .i64 t.q, .int .i64 t.r]
def Se.get (s : Se) (i : Nat) : Ci := if i = 0 then s.x else if i = 1 then s.y else s.z
def Tr.get (t : Tr) (i : Nat) : Int := if i = 0 then t.p else if i = 1 then t.q else t.r
def Se.map (f : Nat → Ci → Ci) (s : Se) : Se := ⟨f 0 s.x, f 1 s.y, f 2 s.z⟩
/-- the first k ciphers changed -/
def Se.mapTo (f : Nat → Ci → Ci) (s : Se) (k : Nat) : Se := ⟨if 0 < k then f 0 s.x else s.x, if 1 < k then f 1 s.y else s.y, if 2 < k then f 2 s.z else s.z⟩
def Tr.map (f : Int → Int) (t : Tr) : Tr := ⟨f t.p, f t.q, f t.r⟩
theorem Se.mapTo_three (f : Nat → Ci → Ci) (s : Se) : s.mapTo f 3 = s.map f := rfl

/-! ### in form -/
def okC (c : Ci) : Bool := vld c.a && vld c.b
def okS (s : Se) : Bool := okC s.x && (okC s.y && okC s.z)
def chS (s : Se) : Int := if okS s then 0 else 100
theorem okC_iff {c : Ci} : okC c = true ↔ vld c.a = true ∧ vld c.b = true := by simp [okC]
theorem okS_iff {s : Se} : okS s = true ↔ okC s.x = true ∧ okC s.y = true ∧ okC s.z = true := by simp [okS]
theorem okS_get {s : Se} (h : okS s = true) (i : Nat) : okC (s.get i) = true := by
  obtain ⟨h1, h2, h3⟩ := okS_iff.1 h
  unfold Se.get; split
  · exact h1
  · split <;> assumption

/-! ### secrets, keys -/
def secB (n : Int) : Bool := decide (1 ≤ n) && decide (n < 1073741789)
def pubC (n : Int) : Int := if secB n then powC 4 n else 0
def pubE (n : Int) : Int := if secB n then 0 else 110
theorem powE_4 : powE 4 = 0 := by simp [powE, vld_4]
/-- what is put together of the first keys, as long as all are elements -/
def joinTo (l : List Int) : Option Int := l.foldl (fun o k => match o with
  | some c => if vld c && vld k then some (c * k % 2147483579) else none
  | none => none) (some 1)
def joinC (l : List Int) : Int := (joinTo l).getD 0
def joinE (l : List Int) : Int := if (joinTo l).isSome then 0 else 90
theorem joinTo_snoc (l : List Int) (k : Int) : joinTo (l ++ [k]) = match joinTo l with
  | some c => if vld c && vld k then some (c * k % 2147483579) else none
  | none => none := by
  unfold joinTo; rw [List.foldl_append]; rfl
theorem fold_none : ∀ (l : List Int), l.foldl (fun (o : Option Int) k => match o with
  | some c => if vld c && vld k then some (c * k % 2147483579) else none
  | none => none) none = none
  | [] => rfl
  | _ :: l => fold_none l
theorem joinTo_none {l r : List Int} (h : joinTo l = none) : joinTo (l ++ r) = none := by
  unfold joinTo at *; rw [List.foldl_append, h]; exact fold_none r

/-! ### sealing -/
def stripC (n : Int) (_ : Nat) (c : Ci) : Ci := ⟨c.a, c.b * powC c.a (-n) % 2147483579⟩
def wOK (w : Tr) : Bool := elE w.p == 0 && (elE w.q == 0 && elE w.r == 0)
def strpC (n : Int) (s : Se) : Se := if secB n && okS s then s.map (stripC n) else default
def strpE (n : Int) (s : Se) : Int := if secB n then chS s else 110
def readC (s : Se) : Tr := if okS s then ⟨numC s.x.b, numC s.y.b, numC s.z.b⟩ else default
theorem elE_iff {n : Int} : (elE n == 0) = true ↔ 1 ≤ n ∧ n ≤ 1073741789 := by
  unfold elE; split <;> simp <;> omega
end Fk

namespace Go.Proofs.YthckledagggoiaaGreatDoor
open Go.RowKit Fk

set_option maxHeartbeats 400000 in
theorem secret_any (n : Int) (w : World) :
    Calls Tryz.prog 64 #[.int .i64 n] w fun e w' => e = .returned (.bool (secB n)) ∧ w = w' := by
  unfold secB
  by_cases h1 : 1 ≤ n
  · go_enter Tryz.func64, Tryz.ntmps64
    go_wp2
    go_ret
    exact ⟨by simp [h1], rfl⟩
  · have h2 : n < 1 := by omega
    have h3 : decide (1 ≤ n) = false := by simpa using h1
    clear h1
    go_enter Tryz.func64, Tryz.ntmps64
    go_wp2
    go_ret
    exact ⟨by simp [h3], rfl⟩

set_option maxHeartbeats 400000 in
theorem public_any (n : Int) (w : World) :
    Calls Tryz.prog 57 #[.int .i64 n] w fun e w' => e = .returned (.tuple #[.int .i64 (pubC n), .int .i64 (pubE n)]) ∧ Below w.heap.size w w' := by
  have hB : Below w.heap.size w w := Below.refl _ _
  cases hs : secB n with
  | true =>
    have e1 : pubC n = powC 4 n := by simp [pubC, hs]
    have e2 : pubE n = 0 := by simp [pubE, hs]
    rw [e1, e2]
    clear e1 e2
    have hp := fun w => pow_any 4 n w
    rw [powE_4] at hp
    generalize powC 4 n = p at *
    have HP := Lib.hid hp
    clear hp
    go_enter Tryz.func57, Tryz.ntmps57
    go_wp2_with (first | (go_at_call 64; refine (secret_any _ _).mono ?_; rintro e w1 ⟨rfl, rfl⟩) | (go_at_call 105; refine (HP.out _).mono ?_; rintro e w1 ⟨rfl, hb⟩))
    go_ret2
    exact ⟨rfl, hb⟩
  | false =>
    have e1 : pubC n = 0 := by simp [pubC, hs]
    have e2 : pubE n = 110 := by simp [pubE, hs]
    rw [e1, e2]
    clear e1 e2
    go_enter Tryz.func57, Tryz.ntmps57
    go_wp2_with (go_at_call 64; refine (secret_any _ _).mono ?_; rintro e w1 ⟨rfl, rfl⟩)
    go_ret2
    exact ⟨rfl, hB⟩

theorem mul_sm {x y : Int} (h : 0 ≤ x ∧ x < 2147483579) (h' : 0 ≤ y ∧ y < 2147483579) : 0 ≤ x * y ∧ x * y ≤ 2147483579 * 2147483579 :=
  ⟨Int.mul_nonneg (by omega) (by omega), Int.mul_le_mul (by omega) (by omega) (by omega) (by omega)⟩

set_option maxHeartbeats 400000 in
theorem times_two (x y : Int) (hx : 0 ≤ x ∧ x < 2147483579) (hy : 0 ≤ y ∧ y < 2147483579) (b : Nat) (w : World) (h0 : w.cell? ⟨b, 0, none⟩ = some (.int .i64 x)) (h1 : w.cell? ⟨b, 1, none⟩ = some (.int .i64 y)) :
    Calls Tryz.prog 68 #[.slice (some ⟨b, 0, none⟩) 2 2] w fun e w' => e = .returned (.int .i64 (x * y % 2147483579)) ∧ w = w' := by
  have m := mul_sm hx hy
  have e1 : x % 2147483579 = x := Int.emod_eq_of_lt hx.1 hx.2
  obtain ⟨hx1, hx2⟩ := hx
  obtain ⟨hy1, hy2⟩ := hy
  go_enter Tryz.func68, Tryz.ntmps68
  go_wp2
  refine wp_loop_rounds 3 ?_
  rw [rounds_succ]
  go_wp2
  rw [rounds_succ]
  go_wp2
  rw [rounds_succ]
  go_wp2
  go_ret
  exact ⟨rfl, rfl⟩
set_option maxHeartbeats 400000 in
theorem epow_any (a n : Int) (w : World) :
    Calls Tryz.prog 69 #[.int .i64 a, .int .i64 n] w fun e w' => e = .returned (.int .i64 (powC a n)) ∧ Below w.heap.size w w' := by
  generalize hp : powC a n = p
  generalize hq : powE a = q
  have hP := fun w => pow_any a n w
  rw [hp, hq] at hP
  have HP := Lib.hid hP
  clear hP hp hq
  go_enter Tryz.func69, Tryz.ntmps69
  go_wp2_with (go_at_call 105; refine (HP.out _).mono ?_; rintro e w1 ⟨rfl, hb⟩)
  go_ret
  exact ⟨rfl, hb⟩
end Go.Proofs.YthckledagggoiaaGreatDoor

namespace Go.Proofs.YthckledagggoiaaGreatDoor
open Go.RowKit Fk

theorem join_step {l : List Int} {k : Nat} {c : Int} (h : k < l.length) (hj : joinTo (l.take k) = some c) (hm : mulE c (l.getD k default) = 0) : joinTo (l.take (k + 1)) = some (mulC c (l.getD k default)) := by
  rw [take_snocI h, joinTo_snoc, hj]
  unfold mulE at hm
  split at hm
  · rename_i h1
    simp only
    rw [if_pos h1]; unfold mulC; rw [if_pos h1]
  · cases hm
theorem join_bad {l : List Int} {k : Nat} {c : Int} (h : k < l.length) (hj : joinTo (l.take k) = some c) (hm : mulE c (l.getD k default) ≠ 0) : joinTo l = none ∧ mulE c (l.getD k default) = 90 := by
  unfold mulE at *
  split at hm
  · exact absurd rfl hm
  · rename_i h1
    refine ⟨?_, by rw [if_neg h1]⟩
    have : joinTo (l.take (k + 1)) = none := by
      rw [take_snocI h, joinTo_snoc, hj]
      simp only
      rw [if_neg h1]
    rw [← List.take_append_drop (k + 1) l]
    exact joinTo_none this
end Go.Proofs.YthckledagggoiaaGreatDoor

namespace Go.Proofs.YthckledagggoiaaGreatDoor
open Go.RowKit Fk
set_option maxHeartbeats 1000000 in
theorem fold_any (l : List Int) (v : Value) (w : World) (B0 : Nat) (h : SlI w B0 v l) :
    Calls Tryz.prog 113 #[v, .int .i64 1, .func (.func 114) #[] #[]] w fun e w' => e = .returned (.tuple #[.int .i64 ((joinTo l).getD 1), .int .i64 (joinE l)]) ∧ w = w' := by
  have HS := Lib.hid h
  obtain ⟨hlen, A, c, rfl, _⟩ := h
  go_enter Tryz.func113, Tryz.ntmps113
  go_wp2_with fail
  go_loopg [6, 7, 13] l.length (fun g x e i wr => w = wr ∧ ∃ (k : Nat) (c : Int), i = .int .i64 k ∧ k + g = l.length ∧ x = .int .i64 c ∧ Hid (joinTo (l.take k) = some c))
  case atStart => exact ⟨rfl, 0, 1, rfl, by omega, rfl, rfl⟩
  case round =>
    obtain ⟨rfl, k, cc, rfl, hk, rfl, hj⟩ := hrel
    by_cases hlt : k < l.length
    · obtain ⟨_, A', c', hv, hE⟩ := HS.out
      obtain ⟨b, off, rfl, hb, hE⟩ := hE (by omega)
      cases hv
      have d1 := hE.int hlt
      have hg := fun h => join_step hlt hj.out h
      have hbad := fun h => join_bad hlt hj.out h
      obtain ⟨x, hx⟩ : ∃ x, l.getD k default = x := ⟨_, rfl⟩
      rw [hx] at d1 hg hbad
      have hm := fun w => mul_any cc x w
      by_cases he : mulE cc x = 0
      · have hg' := Lib.hid (hg he)
        rw [he] at hm
        obtain ⟨m, hmm⟩ : ∃ m, mulC cc x = m := ⟨_, rfl⟩
        rw [hmm] at hm hg'
        have HM := Lib.hid hm
        clear hg hbad hm he hmm hx hE
        go_wp2_with (go_at_call 114; refine (HM.out _).mono ?_; rintro e w1 ⟨rfl, rfl⟩)
        go_roundg (gk - 1)
        case measure => omega
        case rel => exact ⟨rfl, k + 1, m, by go_num, by omega, rfl, hg'.out⟩
      · obtain ⟨b1, b2⟩ := hbad he
        have e1 : (joinTo l).getD 1 = 1 := by rw [b1]; rfl
        have e2 : joinE l = 90 := by unfold joinE; rw [b1]; rfl
        rw [b2] at hm
        obtain ⟨m, hmm⟩ : ∃ m, mulC cc x = m := ⟨_, rfl⟩
        rw [hmm] at hm
        have HM := Lib.hid hm
        have E1 := Lib.hid e1
        have E2 := Lib.hid e2
        clear hg hbad hm he hmm hx hE b1 b2 e1 e2
        go_wp2_with (go_at_call 114; refine (HM.out _).mono ?_; rintro e w1 ⟨rfl, rfl⟩)
        go_ret2
        exact ⟨ret_int2 E1.out.symm E2.out.symm, rfl⟩
    · obtain rfl : k = l.length := by omega
      have e := hj.out
      rw [List.take_length] at e
      have e1 : (joinTo l).getD 1 = cc := by rw [e]; rfl
      have e2 : joinE l = 0 := by unfold joinE; rw [e]; rfl
      have E1 := Lib.hid e1
      have E2 := Lib.hid e2
      clear e e1 e2 hj
      go_wp2_with fail
      go_ret2
      exact ⟨ret_int2 E1.out.symm E2.out.symm, rfl⟩

set_option maxHeartbeats 400000 in
theorem join_any (l : List Int) (v : Value) (w : World) (B0 : Nat) (h : SlI w B0 v l) :
    Calls Tryz.prog 58 #[v] w fun e w' => e = .returned (.tuple #[.int .i64 (joinC l), .int .i64 (joinE l)]) ∧ w = w' := by
  have hf := fold_any l v w B0 h
  cases hj : joinTo l with
  | none =>
    have e1 : joinC l = 0 := by unfold joinC; rw [hj]; rfl
    have e2 : joinE l = 90 := by unfold joinE; rw [hj]; rfl
    rw [hj, e2] at hf
    rw [e1, e2]
    have HF := Lib.hid hf
    clear hf e1 e2 hj
    go_enter Tryz.func58, Tryz.ntmps58
    go_wp2_with (go_at_call 113; refine HF.out.mono ?_; rintro e w1 ⟨rfl, rfl⟩)
    go_ret2
    exact ⟨rfl, rfl⟩
  | some c =>
    have e1 : joinC l = c := by unfold joinC; rw [hj]; rfl
    have e2 : joinE l = 0 := by unfold joinE; rw [hj]; rfl
    rw [hj, e2] at hf
    rw [e1, e2]
    have hf2 : Calls Tryz.prog 113 #[v, .int .i64 1, .func (.func 114) #[] #[]] w fun e w' => e = .returned (.tuple #[.int .i64 c, .int .i64 0]) ∧ w = w' := hf
    have HF := Lib.hid hf2
    clear hf hf2 e1 e2 hj
    go_enter Tryz.func58, Tryz.ntmps58
    go_wp2_with (go_at_call 113; refine HF.out.mono ?_; rintro e w1 ⟨rfl, rfl⟩)
    go_ret2
    exact ⟨rfl, rfl⟩
end Go.Proofs.YthckledagggoiaaGreatDoor

namespace Go.Proofs.YthckledagggoiaaGreatDoor
open Go.RowKit Go.Shelf Fk
attribute [local go_sem] Oper.semAt_some

def ciV (bs k : Nat) : Array Value := #[.int .i64 (k : Int), .pointer (some ⟨bs, k * 2, none⟩)]
def ciVals (bs : Nat) : List (Array Value) := (List.range 3).map (ciV bs)
theorem ciVals_get (bs : Nat) {k : Nat} (h : k < 3) : (ciVals bs)[k]? = some (ciV bs k) := by
  unfold ciVals; rw [List.getElem?_map, List.getElem?_range h]; rfl
theorem ciVals_length (bs : Nat) : (ciVals bs).length = 3 := by simp [ciVals]
theorem ciVals_some {bs k : Nat} {v : Array Value} (h : (ciVals bs)[k]? = some v) : k < 3 ∧ v = ciV bs k := by
  have hk : k < 3 := by have := (List.getElem?_eq_some_iff.1 h).1; rwa [ciVals_length] at this
  rw [ciVals_get bs hk] at h
  exact ⟨hk, by injection h with h; exact h.symm⟩

set_option maxHeartbeats 1000000 in
theorem ciphers_seq (bs bc K : Nat) (m : Nat) (hm : 1 ≤ m) :
    SeqL Fence.wide m Tryz.prog 119 #[.pointer (some ⟨bc, 0, none⟩)] (ciVals bs)
      (fun _ => False) (fun r => r = bc) (fun W => Boxed W bc 128 (.pointer (some ⟨bs, 0, none⟩))) K := fun l J Jx W hT hsz hJ hJx hY h0 => by
  refine callsIn_of_wp Tryz.func119 rfl trivial ?_ rfl
  simp only [Tryz.ntmps119, List.size_toArray, List.length_cons, List.length_nil, Nat.reduceAdd, Nat.reduceSub, Array.replicate_succ, Array.replicate_zero, List.push_toArray, List.append_toArray, List.nil_append, List.cons_append]
  gi_wp2
  gi_loopw [4] (fun i wr => ∃ k : Nat, i = .int .i64 k ∧ k ≤ 3 ∧ Boxed wr bc 128 (.pointer (some ⟨bs, 0, none⟩)) ∧ J k wr ∧ K ≤ wr.heap.size) (fun i _ => 3 - (intOf i).toNat)
  case atStart => exact ⟨0, rfl, by omega, hT, h0, by omega⟩
  case round =>
    obtain ⟨k, rfl, hk, hB, hJk, hKw⟩ := hrel
    have c1 := hB.cell
    by_cases h3 : k < 3
    · have hv := ciVals_get bs h3
      obtain ⟨fn, tmps, assign, body, hy, hR⟩ := hY k _ wr hJk hKw hv
      unfold ciV at hy
      have s5 : (0 : Int) ≤ k := by omega
      have s6 : (k : Int) < 3 := by omega
      clear hv
      gi_wp2
      refine hR.mono ?_
      rintro e W3 (⟨rfl, hJ3, hS3, hz3⟩ | ⟨rfl, hJx3⟩)
      · have hB3 : Boxed W3 bc 128 (.pointer (some ⟨bs, 0, none⟩)) := (hS3 bc rfl).trans hB
        clear c1 hy hR hY
        gi_wp2
        refine ⟨⟨k + 1, by go_num, by omega, hB3, hJ3, by omega⟩, by simp [intOf]; omega⟩
      · clear hy hR hY
        gi_wp2
        refine bodyPost_ret (results_none rfl _ _ _) rfl ?_
        exact ⟨⟨_, rfl⟩, .inr ⟨k, by rw [ciVals_length]; exact h3, hJx3⟩⟩
    · obtain rfl : k = 3 := by omega
      gi_wp2
      go_end0
      exact ⟨⟨_, rfl⟩, .inl (by rw [ciVals_length]; exact hJk)⟩

set_option maxHeartbeats 400000 in
theorem ciphers_any (bs : Nat) (w : World) :
    Calls Tryz.prog 70 #[.pointer (some ⟨bs, 0, none⟩)] w fun e w' => e = .returned (.func (.func 119) #[] #[.pointer (some ⟨w.heap.size, 0, none⟩)]) ∧
      w.alloc (.cells #[.pointer (some ⟨bs, 0, none⟩)] 128) = w' := by
  go_enter Tryz.func70, Tryz.ntmps70
  go_wp2
  go_ret
  exact ⟨rfl, rfl⟩
end Go.Proofs.YthckledagggoiaaGreatDoor

namespace Go.Proofs.YthckledagggoiaaGreatDoor
open Go.RowKit Go.Shelf Fk
attribute [local go_sem] Oper.semAt_some
theorem wide_fn (f : FuncId) : Fence.wide.fn f = True := rfl
attribute [local go_sem] wide_fn

theorem boxed_at {w : World} {n : Nat} (h : w.heap.size = n) (t : TypeId) (v : Value) : Boxed (w.alloc (.cells #[v] t)) n t v := h ▸ Boxed.new w t v
theorem row_at {w : World} {n : Nat} (h : w.heap.size = n) (t : TypeId) (vs : List Value) : Row (w.alloc (.cells vs.toArray t)) n t vs := h ▸ Row.new w t vs
/-- six cells of a letter -/
def RowS (W : World) (b : Nat) (s : Se) : Prop := Row W b 70 s.cells
theorem RowS.ca {W : World} {b : Nat} {s : Se} (h : RowS W b s) {k : Nat} (hk : k < 3) : W.cell? ⟨b, k * 2, none⟩ = some (.int .i64 (s.get k).a) := by
  rw [Row.cell h]
  rcases (show k = 0 ∨ k = 1 ∨ k = 2 by omega) with rfl | rfl | rfl <;> rfl
theorem RowS.cb {W : World} {b : Nat} {s : Se} (h : RowS W b s) {k : Nat} (hk : k < 3) : W.cell? ⟨b, k * 2 + 1, none⟩ = some (.int .i64 (s.get k).b) := by
  rw [Row.cell h]
  rcases (show k = 0 ∨ k = 1 ∨ k = 2 by omega) with rfl | rfl | rfl <;> rfl
theorem RowS.kept {W W' : World} {b : Nat} {s : Se} {row : Option Nat} (h : RowS W b s) (hg : W.grownBy W' row) (hne : some b ≠ row) : RowS W' b s := Row.keep h (hg.block b (Row.lt h) hne)
theorem okS_all {s : Se} (h : ∀ i, i < 3 → okC (s.get i) = true) : okS s = true := okS_iff.2 ⟨h 0 (by omega), h 1 (by omega), h 2 (by omega)⟩
theorem okS_bad {s : Se} {i : Nat} (h : okC (s.get i) = false) : okS s = false := by
  cases hs : okS s with
  | false => rfl
  | true => rw [okS_get hs i] at h; cases h

set_option maxHeartbeats 1000000 in
theorem echeck_any (s : Se) (w : World) :
    Calls Tryz.prog 65 #[s.val] w fun e w' => e = .returned (.int .i64 (chS s)) ∧ Below w.heap.size w w' := by
  refine (callsIn_wide (n := 3)).1 ?_
  refine callsIn_of_wp_marks Tryz.func65 rfl trivial ?_ rfl
  simp only [Tryz.ntmps65, List.size_toArray, List.length_cons, List.length_nil, Nat.reduceAdd, Nat.reduceSub, Array.replicate_succ, Array.replicate_zero, List.push_toArray, List.append_toArray, List.nil_append, List.cons_append]
  unfold Se.val
  gi_wp2_with (gi_at_call 70; refine (callsIn_wide.2 (ciphers_any _ _)).mono ?_; rintro e w' ⟨rfl, rfl⟩)
  obtain ⟨W0, hW0⟩ : ∃ W0 : World, (((w.alloc (Obj.cells #[Value.int IntKind.i64 s.x.a, Value.int IntKind.i64 s.x.b, Value.int IntKind.i64 s.y.a, Value.int IntKind.i64 s.y.b, Value.int IntKind.i64 s.z.a, Value.int IntKind.i64 s.z.b] 70)).alloc
        (Obj.cells #[Value.int IntKind.i64 0] 39)).alloc (Obj.cells #[Value.pointer (some { block := w.heap.size, off := 0 })] 128)) = W0 := ⟨_, rfl⟩
  have hz : W0.heap.size = w.heap.size + 3 := by rw [← hW0]; simp
  have hR : RowS W0 w.heap.size s := by rw [← hW0]; exact ((Row.new w 70 s.cells).alloc _).alloc _
  have hE : Boxed W0 (w.heap.size + 1) 39 (.int .i64 0) := by rw [← hW0]; exact (boxed_at (by simp) _ _).alloc _
  have hP : Boxed W0 (w.heap.size + 2) 128 (.pointer (some ⟨w.heap.size, 0, none⟩)) := by rw [← hW0]; exact boxed_at (by simp) _ _
  have hBW : Below w.heap.size w W0 := by rw [← hW0]; exact (((Below.refl _ w).alloc (Nat.le_refl _) _).alloc (by simp) _).alloc (by simp; omega) _
  rw [hW0]
  clear hW0
  refine wpIn_rangeL (w := W0) rfl (by omega) (gf := 119) (lb := #[.pointer (some ⟨w.heap.size + 2, 0, none⟩)]) rfl trivial (enters_of Tryz.func119 (by kernel_rfl) rfl)
    (ciphers_seq w.heap.size (w.heap.size + 2) _ 2 (by omega))
    (fun W hW => (hW.block _ (by omega)).trans hP) (by omega) (fun h => h) (fun h => h)
    (fun v hv => by obtain ⟨p, _, rfl⟩ := List.mem_map.1 hv; rfl)
    (fun k W => RowS W w.heap.size s ∧ Boxed W (w.heap.size + 1) 39 (.int .i64 0) ∧ Below w.heap.size w W ∧ ∀ i, i < k → okC (s.get i) = true)
    (fun c _ W => c = .ret ∧ okS s = false ∧ Boxed W (w.heap.size + 1) 39 (.int .i64 100) ∧ Below w.heap.size w W)
    (fun k W W' row ⟨h1, h2, h3, h4⟩ hg hr => ⟨h1.kept hg (fun e => by have := (hr _ e.symm).resolve_left (fun h => h); omega), h2.kept hg (fun e => by have := (hr _ e.symm).resolve_left (fun h => h); omega), h3.grown hg h3.size (fun r e => by have := (hr _ e).resolve_left (fun h => h); omega), h4⟩)
    (fun c k W W' row ⟨h1, h2, h3, h4⟩ hg hr => ⟨h1, h2, h3.kept hg (fun e => by have := (hr _ e.symm).resolve_left (fun h => h); omega), h4.grown hg h4.size (fun r e => by have := (hr _ e).resolve_left (fun h => h); omega)⟩)
    ⟨hR, hE, hBW, fun i hi => by omega⟩
    (fun k a' _ => k < 3 ∧ a' = { tmps := #[Value.agg #[Value.int IntKind.i64 s.x.a, Value.int IntKind.i64 s.x.b, Value.int IntKind.i64 s.y.a, Value.int IntKind.i64 s.y.b, Value.int IntKind.i64 s.z.a, Value.int IntKind.i64 s.z.b],
            Value.pointer (some { block := w.heap.size, off := 0 }),
            Value.pointer (some { block := w.heap.size + 1, off := 0 }), undef, .pointer (some ⟨w.heap.size, k * 2, none⟩),
            Value.func (Fn.func 119) #[] #[Value.pointer (some { block := w.heap.size + 1 + 1, off := 0 })], .int .i64 (k : Int), .pointer (some ⟨w.heap.size, k * 2, none⟩),
            undef, undef, undef, undef, undef, undef, undef, undef, undef, undef, undef, undef, undef, undef], defers := [] })
    (fun _ _ _ _ _ _ hs _ _ => hs) ?assign ?body ?done ?stop
  case assign =>
    intro l k v W K hI hv hsz hK
    obtain ⟨hk, rfl⟩ := ciVals_some hv
    clear hv
    unfold ciV
    gi_wp2
    exact hK _ _ (Kept.refl _ _) (SameOn.refl _ _) hI ⟨hk, rfl⟩
  case body =>
    rintro l k v a' W ⟨h1, h2, h3, h4⟩ ⟨hk, rfl⟩ hv hsz
    have c1 := h1.ca hk
    have c2 := h1.cb hk
    have c3 := h2.cell
    have c4 := h2.frozen
    have hok : okC (s.get k) = (vld (s.get k).a && vld (s.get k).b) := rfl
    have hbad := okS_bad (s := s) (i := k)
    obtain ⟨c, hsk⟩ : ∃ c, s.get k = c := ⟨_, rfl⟩
    rw [hsk] at c1 c2 hok hbad
    have hall : okC c = true → ∀ i, i < k + 1 → okC (s.get i) = true := fun hc i hi => by
      by_cases e : i = k
      · rw [e, hsk]; exact hc
      · exact h4 i (by omega)
    have H4 := Lib.hid hall
    clear hall hsk h4
    have HB := Lib.hid hbad
    have HO := Lib.hid hok
    clear hbad hok
    by_cases ha : vld c.a = true ∧ vld c.b = true
    · obtain ⟨ha, hb⟩ := ha
      gi_wp2_with (gi_at_call 59; refine (callsIn_wide.2 (valid_any _ _)).mono ?_; rintro e w' ⟨rfl, rfl⟩)
      exact ⟨Kept.refl _ _, SameOn.refl _ _, h1, h2, h3, H4.out (by rw [HO.out, ha, hb]; rfl)⟩
    · have hf : okS s = false := HB.out (by rw [HO.out]; cases hva : vld c.a <;> cases hvb : vld c.b <;> simp_all)
      have HF := Lib.hid hf
      clear hf
      cases hva : vld c.a with
      | true =>
        have hvb : vld c.b = false := by cases hvb : vld c.b <;> simp_all
        clear ha
        gi_wp2_with (gi_at_call 59; refine (callsIn_wide.2 (valid_any _ _)).mono ?_; rintro e w' ⟨rfl, rfl⟩)
        exact ⟨Kept.setCell _ _ (by simp only []; omega) (by simp only []; omega), rfl, HF.out, h2.set _, h3.setCell (p := ⟨w.heap.size + 1, 0, none⟩) (by simp) _⟩
      | false =>
        clear ha
        gi_wp2_with (gi_at_call 59; refine (callsIn_wide.2 (valid_any _ _)).mono ?_; rintro e w' ⟨rfl, rfl⟩)
        exact ⟨Kept.setCell _ _ (by simp only []; omega) (by simp only []; omega), rfl, HF.out, h2.set _, h3.setCell (p := ⟨w.heap.size + 1, 0, none⟩) (by simp) _⟩
  case done =>
    rintro W ⟨h1, h2, h3, h4⟩ hsz hD
    have e1 : chS s = 0 := by unfold chS; rw [if_pos (okS_all (fun i hi => h4 i (by rw [ciVals_length]; exact hi)))]
    have c3 := h2.cell
    have c4 := h2.frozen
    have HE := Lib.hid e1
    clear e1 h4 h1
    gi_wp2
    have hD' : (W.setCell ⟨w.heap.size + 1, 0, none⟩ (.int .i64 0)).heap[W0.heap.size]? = some (.deferred (some [])) := (Below.heap_setCell _ _ _ _ (by simp only []; omega)).trans hD
    have b1 := h2.set (.int .i64 0)
    have hBf := h3.setCell (p := ⟨w.heap.size + 1, 0, none⟩) (by simp) (.int .i64 0)
    refine ⟨by simp, .inl ⟨_, _, rfl, run_takeDeferred hD', ?_⟩⟩
    have d1 := (b1.kept (grownBy_putObj' _ W0.heap.size (.deferred none)) (by simp; omega)).cell
    refine ⟨.int .i64 0, ?_, by rw [HE.out], ?_⟩
    · simp [results, Tryz.f65, go_sem, d1]
    · exact hBf.grown (grownBy_putObj' _ W0.heap.size (.deferred none)) hBf.size (fun r e => by cases e; omega)
  case stop =>
    rintro c k W _ ⟨rfl, h2, h3, h4⟩ hsz hD
    have e1 : chS s = 100 := by unfold chS; rw [h2]; rfl
    have HE := Lib.hid e1
    clear e1 h2
    gi_wp2
    refine ⟨by simp, .inl ⟨_, _, rfl, run_takeDeferred hD, ?_⟩⟩
    have d1 := (h3.kept (grownBy_putObj' _ W0.heap.size (.deferred none)) (by simp; omega)).cell
    refine ⟨.int .i64 100, ?_, by rw [HE.out], ?_⟩
    · simp [results, Tryz.f65, go_sem, d1]
    · exact h4.grown (grownBy_putObj' _ W0.heap.size (.deferred none)) h4.size (fun r e => by cases e; omega)
end Go.Proofs.YthckledagggoiaaGreatDoor

set_option linter.unusedSimpArgs false
namespace Go.Proofs.YthckledagggoiaaGreatDoor
open Go.RowKit Go.Shelf Fk

def _root_.Fk.Se.set (s : Se) (k : Nat) (c : Ci) : Se := ⟨if k = 0 then c else s.x, if k = 1 then c else s.y, if k = 2 then c else s.z⟩
theorem mapTo_set (f : Nat → Ci → Ci) (s : Se) {k : Nat} (h : k < 3) : (s.mapTo f k).set k (f k (s.get k)) = s.mapTo f (k + 1) := by
  rcases (show k = 0 ∨ k = 1 ∨ k = 2 by omega) with rfl | rfl | rfl <;> rfl
theorem mapTo_get (f : Nat → Ci → Ci) (s : Se) {k : Nat} (h : k < 3) : (s.mapTo f k).get k = s.get k := by
  rcases (show k = 0 ∨ k = 1 ∨ k = 2 by omega) with rfl | rfl | rfl <;> rfl
theorem set_cells_b (s : Se) {k : Nat} (c : Ci) (h : k < 3) (ha : c.a = (s.get k).a) : (s.set k c).cells = s.cells.set (k * 2 + 1) (.int .i64 c.b) := by
  rcases (show k = 0 ∨ k = 1 ∨ k = 2 by omega) with rfl | rfl | rfl
  · have : c.a = s.x.a := ha
    simp [Se.set, Se.cells, this]
  · have : c.a = s.y.a := ha
    simp [Se.set, Se.cells, this]
  · have : c.a = s.z.a := ha
    simp [Se.set, Se.cells, this]
theorem powC_bd (a n : Int) : 0 ≤ powC a n ∧ powC a n < 2147483579 := by
  unfold powC; split
  · exact ⟨pwr_nonneg _ _, pwr_lt _ _⟩
  · omega
/-- what is returned when a function has no results -/
def ranC (bs : Nat) (s : Se) (W : World) (e : Ending) (W' : World) : Prop := (∃ v, e = .returned v) ∧ RowS W' bs s ∧ W.grownBy W' (some bs)

/-- what a region that makes new keys holds: W's blocks are as they were, and so the loaded cells -/
def SMo (W : World) (p1 p2 p3 p4 : Addr) (v1 v2 v3 v4 : Value) (w' : World) : Prop := Below W.heap.size W w' ∧ w'.cell? p1 = some v1 ∧ w'.cell? p2 = some v2 ∧ w'.cell? p3 = some v3 ∧ w'.cell? p4 = some v4
theorem SMo.below {W w' w2 : World} {p1 p2 p3 p4 : Addr} {v1 v2 v3 v4 : Value} (h1 : p1.block < W.heap.size) (h2 : p2.block < W.heap.size) (h3 : p3.block < W.heap.size) (h4 : p4.block < W.heap.size)
    (h : SMo W p1 p2 p3 p4 v1 v2 v3 v4 w') (hb : Below w'.heap.size w' w2) : SMo W p1 p2 p3 p4 v1 v2 v3 v4 w2 := by
  obtain ⟨a, b, c, d, e⟩ := h
  have hz := a.size
  exact ⟨a.trans (hb.mono hz), (hb.cell (by omega)).trans b, (hb.cell (by omega)).trans c, (hb.cell (by omega)).trans d, (hb.cell (by omega)).trans e⟩
theorem below_alloc (w : World) (o : Obj) : Below w.heap.size w (w.alloc o) := (Below.refl _ _).alloc (Nat.le_refl _) o

theorem grown_set {W w' : World} {p : Addr} {u : Value} {b : Nat} (h : W.grownBy w' (some b)) (hp : p.block = b) : W.grownBy (w'.setCell p u) (some b) :=
  ⟨h.os, h.tape, h.output, by simpa [World.setCell] using h.size, fun k hk hn => (Below.heap_setCell w' p u k (fun e => hn (by rw [e, hp]))).trans (h.block k hk hn)⟩
theorem grown_below {W w' : World} (h : Below W.heap.size W w') (row : Option Nat) : W.grownBy w' row := ⟨h.os, h.tape, h.output, h.size, fun k hk _ => h.block k hk⟩

end Go.Proofs.YthckledagggoiaaGreatDoor

set_option linter.unusedSimpArgs false
namespace Go.Proofs.YthckledagggoiaaGreatDoor
open Go.RowKit Go.Shelf Fk
theorem wide_fn' (f : FuncId) : Fence.wide.fn f = True := rfl

set_option maxHeartbeats 2000000 in
theorem strip_in (k : Nat) (hk : k < 3) (s : Se) (n : Int) (bs bn : Nat) (W : World) (h : RowS W bs s) (hn : Boxed W bn 3 (.int .i64 n)) (hn1 : 1 ≤ n) (hn2 : n < 1073741789)
    (_hca : 0 ≤ (s.get k).a ∧ (s.get k).a < 2147483579) (hcb : 0 ≤ (s.get k).b ∧ (s.get k).b < 2147483579) :
    Calls Tryz.prog 67 #[.int .i64 (k : Int), .pointer (some ⟨bs, k * 2, none⟩), .pointer (some ⟨bn, 0, none⟩)] W (ranC bs (s.set k (stripC n k (s.get k))) W) := by
  have c1 := h.ca hk
  have c2 := h.cb hk
  have c4 := hn.cell
  have hs := set_cells_b s (stripC n k (s.get k)) hk rfl
  have hlb := Row.lt h
  have hlk := Boxed.lt hn
  have hkeep := fun (w' : World) (hw : Below W.heap.size W w') => (Row.keep h (hw.block bs hlb) : RowS w' bs s)
  have hmo : stripC n k (s.get k) = ⟨(s.get k).a, (s.get k).b * powC (s.get k).a (-n) % 2147483579⟩ := rfl
  obtain ⟨c, hc⟩ : ∃ c, s.get k = c := ⟨_, rfl⟩
  rw [hc] at c1 c2 hcb hs hmo
  rw [hmo] at hs
  have p1 := powC_bd c.a (-n)
  have q1 := fun w => epow_any c.a (-n) w
  generalize powC c.a (-n) = x1 at *
  have HS := Lib.hid hs
  have HM := Lib.hid hmo
  have Q1 := Lib.hid q1
  have HK := Lib.hid hkeep
  have hS0 : SMo W ⟨bs, k * 2, none⟩ ⟨bs, k * 2 + 1, none⟩ ⟨bn, 0, none⟩ ⟨bn, 0, none⟩ (.int .i64 c.a) (.int .i64 c.b) (.int .i64 n) (.int .i64 n) W.drew := ⟨(Below.refl _ _).drew, c1, c2, c4, c4⟩
  have s1 : (0 : Int) ≤ k := by omega
  have s2 : (k : Int) < 3 := by omega
  have s3 : IntKind.i64.wrap (-n) = -n := by rw [IntKind.wrap_i64]; omega
  clear hs hmo q1 h hn hkeep
  go_enter Tryz.func67, Tryz.ntmps67
  refine wp_region_ord 14 [(1, 0), (1, 1), (1, 2), (1, 3), (1, 4), (1, 5), (1, 6), (1, 7), (1, 8), (1, 9), (1, 10), (2, 11), (2, 12), (2, 13)]
    (SMo W ⟨bs, k * 2, none⟩ ⟨bs, k * 2 + 1, none⟩ ⟨bn, 0, none⟩ ⟨bn, 0, none⟩ (.int .i64 c.a) (.int .i64 c.b) (.int .i64 n) (.int .i64 n)) (by kernel_rfl) (by kernel_rfl) (fun _ _ d _ _ h => by cases d <;> exact h) hS0 ?_
  iterate 11
    refine wpOrd_take (v := ?_) rfl (by rfl) (fun w hSw => ?_) ?_
    rotate_left 1
    · obtain ⟨hSB, hS1, hS2, hS3, hS4⟩ := hSw
      go_simp
      with_reducible rfl
    simp only [Act.put, List.setIfInBounds_toArray, List.set_cons_zero, List.set_cons_succ]
  refine wpOrd_step rfl (fun K hK => ⟨by rfl, ?_⟩)
  go_simp
  go_at_call 69
  refine (Q1.out _).mono ?_
  rintro e w1 ⟨rfl, hb⟩
  refine hK _ _ (hS0.below hlb hlb hlk hlk hb) ?_
  replace hS0 := hS0.below hlb hlb hlk hlk hb
  clear hK K hb
  refine wpOrd_step rfl (fun K hK => ⟨by rfl, ?_⟩)
  go_simp
  refine hK _ _ (hS0.below hlb hlb hlk hlk (below_alloc _ _)) ?_
  replace hS0 := hS0.below hlb hlb hlk hlk (below_alloc _ (Obj.cells #[Value.int IntKind.i64 c.b, Value.int IntKind.i64 x1] 3))
  clear hK K
  refine wpOrd_step rfl (fun K hK => ⟨by rfl, ?_⟩)
  go_simp
  go_at_call 68
  refine (times_two c.b x1 hcb p1 w1.heap.size _ (by simp) (by simp)).mono ?_
  rintro e w2 ⟨rfl, rfl⟩
  refine hK _ _ hS0 ?_
  clear hK K
  generalize w1.alloc (Obj.cells #[Value.int IntKind.i64 c.b, Value.int IntKind.i64 x1] 3) = w6 at *
  refine wpOrd_nil ?_
  simp only [List.drop_succ_cons, List.drop_zero]
  have hBW := hS0.1
  have hRow := HK.out _ hBW
  have g2 : w6.frozen? ⟨bs, k * 2 + 1, none⟩ = false := Row.frozen hRow _
  have g4 : w6.cell? ⟨bs, k * 2 + 1, none⟩ = some (.int .i64 c.b) := hS0.2.2.1
  have HRow := Lib.hid hRow
  clear hRow hS0 c1 c2 c4 s3
  go_wp2_with fail
  go_end0
  refine ⟨⟨_, rfl⟩, ?_, ?_⟩
  · show Row _ _ _ _
    rw [HM.out, HS.out]
    exact Row.store HRow.out (k * 2 + 1) _
  · exact grown_set (grown_below hBW _) rfl

end Go.Proofs.YthckledagggoiaaGreatDoor

set_option linter.unusedSimpArgs false
namespace Go.Proofs.YthckledagggoiaaGreatDoor
open Go.RowKit Go.Shelf Fk
attribute [local go_sem] Oper.semAt_some wide_fn'
def inR (s : Se) : Prop := ∀ k, k < 3 → (0 ≤ (s.get k).a ∧ (s.get k).a < 2147483579) ∧ (0 ≤ (s.get k).b ∧ (s.get k).b < 2147483579)
set_option maxRecDepth 100000 in
set_option maxHeartbeats 2000000 in
theorem changed_strip (s : Se) (n : Int) (bn ab : Nat) (w : World) (hs : inR s) (hn1 : 1 ≤ n) (hn2 : n < 1073741789) (hn : Boxed w bn 3 (.int .i64 n))
    (hab : Boxed w ab 124 (.func (.func 67) #[] #[.pointer (some ⟨bn, 0, none⟩)])) :
    Calls Tryz.prog 66 #[s.val, .slice (some ⟨ab, 0, none⟩) 1 1] w fun e w' => e = .returned (s.map (stripC n)).val ∧ Below w.heap.size w w' := by
  have hlk := Boxed.lt hn
  have hla := Boxed.lt hab
  refine (callsIn_wide (n := 3)).1 ?_
  refine callsIn_of_wp_marks Tryz.func66 rfl trivial ?_ rfl
  simp only [Tryz.ntmps66, List.size_toArray, List.length_cons, List.length_nil, Nat.reduceAdd, Nat.reduceSub, Array.replicate_succ, Array.replicate_zero, List.push_toArray, List.append_toArray, List.nil_append, List.cons_append]
  unfold Se.val
  gi_wp2_with (gi_at_call 70; refine (callsIn_wide.2 (ciphers_any _ _)).mono ?_; rintro e w' ⟨rfl, rfl⟩)
  obtain ⟨W0, hW0⟩ : ∃ W0 : World, ((((w.alloc (Obj.cells #[Value.int IntKind.i64 s.x.a, Value.int IntKind.i64 s.x.b, Value.int IntKind.i64 s.y.a, Value.int IntKind.i64 s.y.b, Value.int IntKind.i64 s.z.a, Value.int IntKind.i64 s.z.b] 70)).alloc
        (Obj.cells #[Value.slice (some { block := ab, off := 0 }) 1 1] 167)).alloc
        (Obj.cells #[Value.int IntKind.i64 0, Value.int IntKind.i64 0, Value.int IntKind.i64 0, Value.int IntKind.i64 0, Value.int IntKind.i64 0, Value.int IntKind.i64 0] 70)).alloc
        (Obj.cells #[Value.pointer (some { block := w.heap.size, off := 0 })] 128)) = W0 := ⟨_, rfl⟩
  have hz : W0.heap.size = w.heap.size + 4 := by rw [← hW0]; simp
  have hR : RowS W0 w.heap.size s := by rw [← hW0]; exact (((Row.new w 70 s.cells).alloc _).alloc _).alloc _
  have hY : Boxed W0 (w.heap.size + 1) 167 (.slice (some ⟨ab, 0, none⟩) 1 1) := by rw [← hW0]; exact ((boxed_at (by simp) _ _).alloc _).alloc _
  have hO : RowS W0 (w.heap.size + 2) default := by rw [← hW0]; exact (row_at (by simp) _ (default : Se).cells).alloc _
  have hP : Boxed W0 (w.heap.size + 3) 128 (.pointer (some ⟨w.heap.size, 0, none⟩)) := by rw [← hW0]; exact boxed_at (by simp) _ _
  have hBW : Below w.heap.size w W0 := by rw [← hW0]; exact ((((Below.refl _ w).alloc (Nat.le_refl _) _).alloc (by simp) _).alloc (by simp; omega) _).alloc (by simp; omega) _
  rw [hW0]
  clear hW0
  refine wpIn_rangeL (w := W0) rfl (by omega) (gf := 119) (lb := #[.pointer (some ⟨w.heap.size + 3, 0, none⟩)]) rfl trivial (enters_of Tryz.func119 (by kernel_rfl) rfl)
    (ciphers_seq w.heap.size (w.heap.size + 3) _ 2 (by omega))
    (fun W hW => (hW.block _ (by omega)).trans hP) (by omega) (fun h => h) (fun h => h)
    (fun v hv => by obtain ⟨p, _, rfl⟩ := List.mem_map.1 hv; rfl)
    (fun k W => RowS W w.heap.size (s.mapTo (stripC n) k) ∧ Boxed W (w.heap.size + 1) 167 (.slice (some ⟨ab, 0, none⟩) 1 1) ∧ RowS W (w.heap.size + 2) default ∧ Below w.heap.size w W)
    (fun _ _ _ => False)
    (fun k W W' row ⟨h1, h2, h3, h4⟩ hg hr => ⟨h1.kept hg (fun e => by have := (hr _ e.symm).resolve_left (fun h => h); omega), h2.kept hg (fun e => by have := (hr _ e.symm).resolve_left (fun h => h); omega), h3.kept hg (fun e => by have := (hr _ e.symm).resolve_left (fun h => h); omega), h4.grown hg h4.size (fun r e => by have := (hr _ e).resolve_left (fun h => h); omega)⟩)
    (fun _ _ _ _ _ hs _ _ => hs.elim)
    ⟨hR, hY, hO, hBW⟩
    (fun k a' _ => k < 3 ∧ a' = { tmps := #[Value.agg #[Value.int IntKind.i64 s.x.a, Value.int IntKind.i64 s.x.b, Value.int IntKind.i64 s.y.a, Value.int IntKind.i64 s.y.b, Value.int IntKind.i64 s.z.a, Value.int IntKind.i64 s.z.b],
            Value.slice (some { block := ab, off := 0 }) 1 1, Value.pointer (some { block := w.heap.size, off := 0 }),
            Value.pointer (some { block := w.heap.size + 1, off := 0 }),
            Value.pointer (some { block := w.heap.size + 1 + 1, off := 0 }), .int .i64 (k : Int), .pointer (some ⟨w.heap.size, k * 2, none⟩), undef, undef,
            Value.func (Fn.func 119) #[] #[Value.pointer (some { block := w.heap.size + 1 + 1 + 1, off := 0 })], .int .i64 (k : Int), .pointer (some ⟨w.heap.size, k * 2, none⟩),
            undef, undef, undef, undef, undef, undef, undef, undef, undef, undef, undef, undef], defers := [] })
    (fun _ _ _ _ _ _ hs _ _ => hs) ?assign ?body ?done ?stop
  case assign =>
    intro l k v W K hI hv hsz hK
    obtain ⟨hk, rfl⟩ := ciVals_some hv
    clear hv
    unfold ciV
    gi_wp2
    exact hK _ _ (Kept.refl _ _) (SameOn.refl _ _) hI ⟨hk, rfl⟩
  case body =>
    rintro l k v a' W ⟨h1, h2, h3, h4⟩ ⟨hk, rfl⟩ hv hsz
    have c1 := h2.cell
    have c2 : W.cell? ⟨ab, 0, none⟩ = some (.func (.func 67) #[] #[.pointer (some ⟨bn, 0, none⟩)]) := Boxed.cell (show Boxed W ab _ _ from (h4.block ab hla).trans hab)
    have hk' : Boxed W bn 3 (.int .i64 n) := (h4.block bn hlk).trans hn
    have hg := mapTo_get (stripC n) s hk
    have hst := mapTo_set (stripC n) s hk
    obtain ⟨i1, i2⟩ := hs k hk
    rw [← hg] at i1 i2 hst
    have hcall := strip_in k hk (s.mapTo (stripC n) k) n w.heap.size bn W h1 hk' hn1 hn2 i1 i2
    rw [hst] at hcall
    have HC := Lib.hid hcall
    clear hcall hg hst hk' i1 i2 hv
    gi_wp2
    refine wpIn_loop_rounds 2 ?_
    rw [roundsIn_succ]
    gi_wp2_with (gi_at_call 67; refine (callsIn_wide.2 HC.out).mono ?_; rintro e w' ⟨⟨v', rfl⟩, hr1, hr2⟩)
    rw [roundsIn_succ]
    gi_wp2
    refine ⟨Kept.grown hr2 (by omega) (by simp; omega) (by simp; omega), ?_, hr1, h2.kept hr2 (by simp), h3.kept hr2 (by simp), h4.grown hr2 h4.size (fun r e => by cases e; exact Nat.le_refl _)⟩
    intro rr hrr
    have h5 : rr = w.heap.size + 3 := hrr
    subst h5
    exact hr2.block _ (by omega) (by simp)
  case done =>
    rintro W ⟨h1, h2, h3, h4⟩ hsz hD
    rw [ciVals_length, Se.mapTo_three] at h1
    obtain ⟨t, ht⟩ : ∃ t, s.map (stripC n) = t := ⟨_, rfl⟩
    rw [ht] at h1
    have HT := Lib.hid ht
    clear ht
    have c0 := Row.cell h1 0
    have c1 := Row.cell h1 1
    have c2 := Row.cell h1 2
    have c3 := Row.cell h1 3
    have c4 := Row.cell h1 4
    have c5 := Row.cell h1 5
    have f0 := Row.frozen h3 0
    have f1 := Row.frozen h3 1
    have f2 := Row.frozen h3 2
    have f3 := Row.frozen h3 3
    have f4 := Row.frozen h3 4
    have f5 := Row.frozen h3 5
    have e0 := Row.cell h3 0
    have e1 := Row.cell h3 1
    have e2 := Row.cell h3 2
    have e3 := Row.cell h3 3
    have e4 := Row.cell h3 4
    have e5 := Row.cell h3 5
    simp only [Se.cells, List.getElem?_cons_zero, List.getElem?_cons_succ] at c0 c1 c2 c3 c4 c5 e0 e1 e2 e3 e4 e5
    gi_wp2
    have h6 : RowS ((((((W.setCell ⟨w.heap.size + 1 + 1, 0, none⟩ (.int .i64 t.x.a)).setCell ⟨w.heap.size + 1 + 1, 1, none⟩ (.int .i64 t.x.b)).setCell ⟨w.heap.size + 1 + 1, 2, none⟩ (.int .i64 t.y.a)).setCell ⟨w.heap.size + 1 + 1, 3, none⟩ (.int .i64 t.y.b)).setCell ⟨w.heap.size + 1 + 1, 4, none⟩ (.int .i64 t.z.a)).setCell ⟨w.heap.size + 1 + 1, 5, none⟩ (.int .i64 t.z.b)) (w.heap.size + 1 + 1) t :=
      Row.store (Row.store (Row.store (Row.store (Row.store (Row.store h3 0 _) 1 _) 2 _) 3 _) 4 _) 5 _
    have hB6 : Below w.heap.size w ((((((W.setCell ⟨w.heap.size + 1 + 1, 0, none⟩ (.int .i64 t.x.a)).setCell ⟨w.heap.size + 1 + 1, 1, none⟩ (.int .i64 t.x.b)).setCell ⟨w.heap.size + 1 + 1, 2, none⟩ (.int .i64 t.y.a)).setCell ⟨w.heap.size + 1 + 1, 3, none⟩ (.int .i64 t.y.b)).setCell ⟨w.heap.size + 1 + 1, 4, none⟩ (.int .i64 t.z.a)).setCell ⟨w.heap.size + 1 + 1, 5, none⟩ (.int .i64 t.z.b)) :=
      (((((h4.setCell (by simp only []; omega) _).setCell (by simp only []; omega) _).setCell (by simp only []; omega) _).setCell (by simp only []; omega) _).setCell (by simp only []; omega) _).setCell (by simp only []; omega) _
    have hD6 : ((((((W.setCell ⟨w.heap.size + 1 + 1, 0, none⟩ (.int .i64 t.x.a)).setCell ⟨w.heap.size + 1 + 1, 1, none⟩ (.int .i64 t.x.b)).setCell ⟨w.heap.size + 1 + 1, 2, none⟩ (.int .i64 t.y.a)).setCell ⟨w.heap.size + 1 + 1, 3, none⟩ (.int .i64 t.y.b)).setCell ⟨w.heap.size + 1 + 1, 4, none⟩ (.int .i64 t.z.a)).setCell ⟨w.heap.size + 1 + 1, 5, none⟩ (.int .i64 t.z.b)).heap[W0.heap.size]? = some (.deferred (some [])) := by
      refine (Below.heap_setCell _ _ _ _ ?_).trans ((Below.heap_setCell _ _ _ _ ?_).trans ((Below.heap_setCell _ _ _ _ ?_).trans ((Below.heap_setCell _ _ _ _ ?_).trans ((Below.heap_setCell _ _ _ _ ?_).trans ((Below.heap_setCell _ _ _ _ ?_).trans hD))))) <;> (simp only []; omega)
    generalize ((((((W.setCell ⟨w.heap.size + 1 + 1, 0, none⟩ (.int .i64 t.x.a)).setCell ⟨w.heap.size + 1 + 1, 1, none⟩ (.int .i64 t.x.b)).setCell ⟨w.heap.size + 1 + 1, 2, none⟩ (.int .i64 t.y.a)).setCell ⟨w.heap.size + 1 + 1, 3, none⟩ (.int .i64 t.y.b)).setCell ⟨w.heap.size + 1 + 1, 4, none⟩ (.int .i64 t.z.a)).setCell ⟨w.heap.size + 1 + 1, 5, none⟩ (.int .i64 t.z.b)) = W6 at *
    refine ⟨by simp, .inl ⟨_, _, rfl, run_takeDeferred hD6, ?_⟩⟩
    have h7 := h6.kept (grownBy_putObj' _ W0.heap.size (.deferred none)) (by simp; omega)
    have d0 := Row.cell h7 0
    have d1 := Row.cell h7 1
    have d2 := Row.cell h7 2
    have d3 := Row.cell h7 3
    have d4 := Row.cell h7 4
    have d5 := Row.cell h7 5
    simp only [Se.cells, List.getElem?_cons_zero, List.getElem?_cons_succ] at d0 d1 d2 d3 d4 d5
    refine ⟨t.val, ?_, by rw [HT.out]; rfl, ?_⟩
    · simp [results, Tryz.f66, go_sem, d0, d1, d2, d3, d4, d5, Se.val]
    · exact hB6.grown (grownBy_putObj' _ W0.heap.size (.deferred none)) hB6.size (fun r e => by cases e; omega)
  case stop =>
    rintro c k W _ h _ _
    exact h.elim
end Go.Proofs.YthckledagggoiaaGreatDoor

set_option linter.unusedSimpArgs false
set_option linter.unusedVariables false
namespace Go.Proofs.YthckledagggoiaaGreatDoor
open Go.RowKit Go.Shelf Fk

theorem okC_bd {c : Ci} (h : okC c = true) : (0 ≤ c.a ∧ c.a < 2147483579) ∧ (0 ≤ c.b ∧ c.b < 2147483579) := by
  obtain ⟨h1, h2⟩ := okC_iff.1 h
  have a1 := vld_lo h1
  have a2 := vld_hi h1
  have a3 := vld_lo h2
  have a4 := vld_hi h2
  exact ⟨⟨by omega, a2⟩, by omega, a4⟩
theorem okS_inR {s : Se} (h : okS s = true) : inR s := fun k _ => okC_bd (okS_get h k)
/-- the six cells, one by one -/
theorem RowS.six {W : World} {b : Nat} {s : Se} (h : RowS W b s) : W.cell? ⟨b, 0, none⟩ = some (.int .i64 s.x.a) ∧ W.cell? ⟨b, 1, none⟩ = some (.int .i64 s.x.b) ∧ W.cell? ⟨b, 2, none⟩ = some (.int .i64 s.y.a) ∧
    W.cell? ⟨b, 3, none⟩ = some (.int .i64 s.y.b) ∧ W.cell? ⟨b, 4, none⟩ = some (.int .i64 s.z.a) ∧ W.cell? ⟨b, 5, none⟩ = some (.int .i64 s.z.b) :=
  ⟨Row.cell h 0, Row.cell h 1, Row.cell h 2, Row.cell h 3, Row.cell h 4, Row.cell h 5⟩
theorem RowS.free {W : World} {b : Nat} {s : Se} (h : RowS W b s) : W.frozen? ⟨b, 0, none⟩ = false ∧ W.frozen? ⟨b, 1, none⟩ = false ∧ W.frozen? ⟨b, 2, none⟩ = false ∧ W.frozen? ⟨b, 3, none⟩ = false ∧ W.frozen? ⟨b, 4, none⟩ = false ∧ W.frozen? ⟨b, 5, none⟩ = false :=
  ⟨Row.frozen h 0, Row.frozen h 1, Row.frozen h 2, Row.frozen h 3, Row.frozen h 4, Row.frozen h 5⟩
theorem RowT.three {W : World} {b : Nat} {ty : TypeId} {t : Tr} (h : Row W b ty t.cells) : W.cell? ⟨b, 0, none⟩ = some (.int .i64 t.p) ∧ W.cell? ⟨b, 1, none⟩ = some (.int .i64 t.q) ∧ W.cell? ⟨b, 2, none⟩ = some (.int .i64 t.r) :=
  ⟨Row.cell h 0, Row.cell h 1, Row.cell h 2⟩
theorem RowT.free {W : World} {b : Nat} {ty : TypeId} {t : Tr} (h : Row W b ty t.cells) : W.frozen? ⟨b, 0, none⟩ = false ∧ W.frozen? ⟨b, 1, none⟩ = false ∧ W.frozen? ⟨b, 2, none⟩ = false :=
  ⟨Row.frozen h 0, Row.frozen h 1, Row.frozen h 2⟩
end Go.Proofs.YthckledagggoiaaGreatDoor

set_option linter.unusedSimpArgs false
set_option linter.unusedVariables false
namespace Go.Proofs.YthckledagggoiaaGreatDoor
open Go.RowKit Go.Shelf Fk

/-- the world's own blocks in Strip, while others come -/
structure Sp (w : World) (n : Int) (s : Se) (W : World) : Prop where
  n : Boxed W w.heap.size 3 (.int .i64 n)
  s : RowS W (w.heap.size + 1) s
  o : RowS W (w.heap.size + 1 + 1) default
  b : Below w.heap.size w W
theorem Sp.below {w W W' : World} {n : Int} {s : Se} (h : Sp w n s W) (hb : Below W.heap.size W W') : Sp w n s W' :=
  ⟨Row.keep (vs := [.int .i64 n]) h.n (hb.block _ (Boxed.lt h.n)), Row.keep h.s (hb.block _ (Row.lt h.s)), Row.keep h.o (hb.block _ (Row.lt h.o)), h.b.trans (hb.mono h.b.size)⟩
theorem Sp.start (n : Int) (s : Se) (w : World) : Sp w n s (((w.alloc (.cells #[.int .i64 n] 3)).alloc (.cells s.cells.toArray 70)).alloc (.cells (default : Se).cells.toArray 70)) :=
  ⟨((Boxed.new w _ _).alloc _).alloc _, (row_at (by simp) _ _).alloc _, row_at (by simp) _ _, (((Below.refl _ w).alloc (Nat.le_refl _) _).alloc (by simp) _).alloc (by simp; omega) _⟩

set_option maxRecDepth 100000 in
set_option maxHeartbeats 2000000 in
theorem strp_no (n : Int) (s : Se) (w : World) (hv : secB n = false) :
    Calls Tryz.prog 24 #[.int .i64 n, s.val] w fun e w' => e = .returned (.tuple #[(default : Se).val, .int .i64 110]) ∧ Below w.heap.size w w' := by
  have hA := Sp.start n s w
  unfold Se.val
  go_enter Tryz.func24, Tryz.ntmps24
  go_wp2_with (go_at_call 64; refine (secret_any _ _).mono ?_; rintro e w1 ⟨rfl, rfl⟩)
  exact bodyPost_ret (v := .tuple #[.agg #[.int .i64 0, .int .i64 0, .int .i64 0, .int .i64 0, .int .i64 0, .int .i64 0], .int .i64 110]) (by simp [results, Tryz.results24, go_sem]) rfl ⟨rfl, hA.b⟩

set_option maxRecDepth 100000 in
set_option maxHeartbeats 2000000 in
theorem strp_bad (n : Int) (s : Se) (w : World) (hv : secB n = true) (hc : okS s = false) :
    Calls Tryz.prog 24 #[.int .i64 n, s.val] w fun e w' => e = .returned (.tuple #[(default : Se).val, .int .i64 100]) ∧ Below w.heap.size w w' := by
  have hch := fun w => echeck_any s w
  have e3 : chS s = 100 := by unfold chS; rw [hc]; rfl
  rw [e3] at hch
  have hA := fun (W : World) (hb : Below (((w.alloc (.cells #[.int .i64 n] 3)).alloc (.cells s.cells.toArray 70)).alloc (.cells (default : Se).cells.toArray 70)).heap.size (((w.alloc (.cells #[.int .i64 n] 3)).alloc (.cells s.cells.toArray 70)).alloc (.cells (default : Se).cells.toArray 70)) W) => (Sp.start n s w).below hb
  unfold Se.val at hch
  obtain ⟨D, hD⟩ : ∃ D : Se, (default : Se) = D := ⟨_, rfl⟩
  have HD := Lib.hid hD
  have HCH := Lib.hid hch
  have HA := Lib.hid hA
  clear e3 hch hA hD
  unfold Se.val
  go_enter Tryz.func24, Tryz.ntmps24
  go_wp2_with (first
    | (go_at_call 64; refine (secret_any _ _).mono ?_; rintro e w1 ⟨rfl, rfl⟩)
    | (go_at_call 65; refine (HCH.out _).mono ?_; rintro e w1 ⟨rfl, hb⟩; replace hb := HA.out _ hb; have ho := hb.o; rw [HD.out] at ho; obtain ⟨q0, q1, q2, q3, q4, q5⟩ := ho.six; obtain ⟨f0, f1, f2, f3, f4, f5⟩ := ho.free))
  have h6 : RowS ((((((w1.setCell ⟨w.heap.size + 1 + 1, 0, none⟩ (.int .i64 D.x.a)).setCell ⟨w.heap.size + 1 + 1, 1, none⟩ (.int .i64 D.x.b)).setCell ⟨w.heap.size + 1 + 1, 2, none⟩ (.int .i64 D.y.a)).setCell ⟨w.heap.size + 1 + 1, 3, none⟩ (.int .i64 D.y.b)).setCell ⟨w.heap.size + 1 + 1, 4, none⟩ (.int .i64 D.z.a)).setCell ⟨w.heap.size + 1 + 1, 5, none⟩ (.int .i64 D.z.b)) (w.heap.size + 1 + 1) D := Row.store (Row.store (Row.store (Row.store (Row.store (Row.store ho 0 _) 1 _) 2 _) 3 _) 4 _) 5 _
  have hB6 : Below w.heap.size w ((((((w1.setCell ⟨w.heap.size + 1 + 1, 0, none⟩ (.int .i64 D.x.a)).setCell ⟨w.heap.size + 1 + 1, 1, none⟩ (.int .i64 D.x.b)).setCell ⟨w.heap.size + 1 + 1, 2, none⟩ (.int .i64 D.y.a)).setCell ⟨w.heap.size + 1 + 1, 3, none⟩ (.int .i64 D.y.b)).setCell ⟨w.heap.size + 1 + 1, 4, none⟩ (.int .i64 D.z.a)).setCell ⟨w.heap.size + 1 + 1, 5, none⟩ (.int .i64 D.z.b)) := (((((hb.b.setCell (by simp only []; omega) _).setCell (by simp only []; omega) _).setCell (by simp only []; omega) _).setCell (by simp only []; omega) _).setCell (by simp only []; omega) _).setCell (by simp only []; omega) _
  generalize ((((((w1.setCell ⟨w.heap.size + 1 + 1, 0, none⟩ (.int .i64 D.x.a)).setCell ⟨w.heap.size + 1 + 1, 1, none⟩ (.int .i64 D.x.b)).setCell ⟨w.heap.size + 1 + 1, 2, none⟩ (.int .i64 D.y.a)).setCell ⟨w.heap.size + 1 + 1, 3, none⟩ (.int .i64 D.y.b)).setCell ⟨w.heap.size + 1 + 1, 4, none⟩ (.int .i64 D.z.a)).setCell ⟨w.heap.size + 1 + 1, 5, none⟩ (.int .i64 D.z.b)) = W6 at *
  obtain ⟨p0, p1, p2, p3, p4, p5⟩ := h6.six
  exact bodyPost_ret (v := .tuple #[.agg #[.int .i64 D.x.a, .int .i64 D.x.b, .int .i64 D.y.a, .int .i64 D.y.b, .int .i64 D.z.a, .int .i64 D.z.b], .int .i64 100]) (by simp [results, Tryz.results24, go_sem, p0, p1, p2, p3, p4, p5]) rfl ⟨by rw [← HD.out], hB6⟩

set_option maxRecDepth 100000 in
set_option maxHeartbeats 2000000 in
theorem strp_ok (n : Int) (s : Se) (w : World) (hv : secB n = true) (hc : okS s = true) :
    Calls Tryz.prog 24 #[.int .i64 n, s.val] w fun e w' => e = .returned (.tuple #[(s.map (stripC n)).val, .int .i64 0]) ∧ Below w.heap.size w w' := by
  have hch := fun w => echeck_any s w
  have e3 : chS s = 0 := by unfold chS; rw [hc]; rfl
  rw [e3] at hch
  have hin := okS_inR hc
  have hn : 1 ≤ n ∧ n < 1073741789 := by simpa [secB] using hv
  have hA := fun (W : World) (hb : Below (((w.alloc (.cells #[.int .i64 n] 3)).alloc (.cells s.cells.toArray 70)).alloc (.cells (default : Se).cells.toArray 70)).heap.size (((w.alloc (.cells #[.int .i64 n] 3)).alloc (.cells s.cells.toArray 70)).alloc (.cells (default : Se).cells.toArray 70)) W) => (Sp.start n s w).below hb
  have hcall := fun (bn ab : Nat) (W : World) => changed_strip s n bn ab W hin hn.1 hn.2
  obtain ⟨t, ht⟩ : ∃ t : Se, s.map (stripC n) = t := ⟨_, rfl⟩
  rw [ht] at hcall ⊢
  unfold Se.val at hch hcall
  have HC := Lib.hid hcall
  have HCH := Lib.hid hch
  have HA := Lib.hid hA
  clear e3 hch hA hcall hin ht hn
  unfold Se.val
  go_enter Tryz.func24, Tryz.ntmps24
  go_wp2_with (first
    | (go_at_call 64; refine (secret_any _ _).mono ?_; rintro e w1 ⟨rfl, rfl⟩)
    | (go_at_call 65; refine (HCH.out _).mono ?_; rintro e w1 ⟨rfl, hb⟩; replace hb := HA.out _ hb; have hs6 := hb.s; obtain ⟨q0, q1, q2, q3, q4, q5⟩ := hs6.six; clear hs6)
    | (go_at_call 66; refine (HC.out _ _ _ (hb.n.alloc _) (Boxed.new _ _ _)).mono ?_; rintro e w3 ⟨rfl, hb4⟩; clear q0 q1 q2 q3 q4 q5; replace hb := (hb.below (below_alloc _ _)).below hb4; clear hb4; have ho := hb.o; obtain ⟨q0, q1, q2, q3, q4, q5⟩ := ho.six; obtain ⟨f0, f1, f2, f3, f4, f5⟩ := ho.free))
  have h6 : RowS ((((((w3.setCell ⟨w.heap.size + 1 + 1, 0, none⟩ (.int .i64 t.x.a)).setCell ⟨w.heap.size + 1 + 1, 1, none⟩ (.int .i64 t.x.b)).setCell ⟨w.heap.size + 1 + 1, 2, none⟩ (.int .i64 t.y.a)).setCell ⟨w.heap.size + 1 + 1, 3, none⟩ (.int .i64 t.y.b)).setCell ⟨w.heap.size + 1 + 1, 4, none⟩ (.int .i64 t.z.a)).setCell ⟨w.heap.size + 1 + 1, 5, none⟩ (.int .i64 t.z.b)) (w.heap.size + 1 + 1) t := Row.store (Row.store (Row.store (Row.store (Row.store (Row.store ho 0 _) 1 _) 2 _) 3 _) 4 _) 5 _
  have hB6 : Below w.heap.size w ((((((w3.setCell ⟨w.heap.size + 1 + 1, 0, none⟩ (.int .i64 t.x.a)).setCell ⟨w.heap.size + 1 + 1, 1, none⟩ (.int .i64 t.x.b)).setCell ⟨w.heap.size + 1 + 1, 2, none⟩ (.int .i64 t.y.a)).setCell ⟨w.heap.size + 1 + 1, 3, none⟩ (.int .i64 t.y.b)).setCell ⟨w.heap.size + 1 + 1, 4, none⟩ (.int .i64 t.z.a)).setCell ⟨w.heap.size + 1 + 1, 5, none⟩ (.int .i64 t.z.b)) := (((((hb.b.setCell (by simp only []; omega) _).setCell (by simp only []; omega) _).setCell (by simp only []; omega) _).setCell (by simp only []; omega) _).setCell (by simp only []; omega) _).setCell (by simp only []; omega) _
  generalize ((((((w3.setCell ⟨w.heap.size + 1 + 1, 0, none⟩ (.int .i64 t.x.a)).setCell ⟨w.heap.size + 1 + 1, 1, none⟩ (.int .i64 t.x.b)).setCell ⟨w.heap.size + 1 + 1, 2, none⟩ (.int .i64 t.y.a)).setCell ⟨w.heap.size + 1 + 1, 3, none⟩ (.int .i64 t.y.b)).setCell ⟨w.heap.size + 1 + 1, 4, none⟩ (.int .i64 t.z.a)).setCell ⟨w.heap.size + 1 + 1, 5, none⟩ (.int .i64 t.z.b)) = W6 at *
  obtain ⟨p0, p1, p2, p3, p4, p5⟩ := h6.six
  exact bodyPost_ret (v := .tuple #[.agg #[.int .i64 t.x.a, .int .i64 t.x.b, .int .i64 t.y.a, .int .i64 t.y.b, .int .i64 t.z.a, .int .i64 t.z.b], .int .i64 0]) (by simp [results, Tryz.results24, go_sem, p0, p1, p2, p3, p4, p5]) rfl ⟨rfl, hB6⟩
theorem strp_any (n : Int) (s : Se) (w : World) :
    Calls Tryz.prog 24 #[.int .i64 n, s.val] w fun e w' => e = .returned (.tuple #[(strpC n s).val, .int .i64 (strpE n s)]) ∧ Below w.heap.size w w' := by
  cases hv : secB n with
  | false =>
    have e1 : strpC n s = default := by unfold strpC; rw [hv]; rfl
    have e2 : strpE n s = 110 := by unfold strpE; rw [hv]; rfl
    rw [e1, e2]; exact strp_no n s w hv
  | true =>
    cases hc : okS s with
    | false =>
      have e1 : strpC n s = default := by unfold strpC; rw [hv, hc]; rfl
      have e2 : strpE n s = 100 := by unfold strpE chS; rw [hv, hc]; rfl
      rw [e1, e2]; exact strp_bad n s w hv hc
    | true =>
      have e1 : strpC n s = s.map (stripC n) := by unfold strpC; rw [hv, hc]; rfl
      have e2 : strpE n s = 0 := by unfold strpE chS; rw [hv, hc]; rfl
      rw [e1, e2]; exact strp_ok n s w hv hc
end Go.Proofs.YthckledagggoiaaGreatDoor

set_option linter.unusedSimpArgs false
set_option linter.unusedVariables false
namespace Go.Proofs.YthckledagggoiaaGreatDoor
open Go.RowKit Go.Shelf Fk

/-- the world's own blocks in Seal, while others come -/
structure Sa (w : World) (r : Tr) (s : Se) (W : World) : Prop where
  r : Row W (w.heap.size + 1) 60 r.cells
  o : RowS W (w.heap.size + 1 + 1) s
  b : Below w.heap.size w W
theorem Sa.below {w W W' : World} {r : Tr} {s : Se} (h : Sa w r s W) (hb : Below W.heap.size W W') : Sa w r s W' :=
  ⟨Row.keep h.r (hb.block _ (Row.lt h.r)), Row.keep h.o (hb.block _ (Row.lt h.o)), h.b.trans (hb.mono h.b.size)⟩
theorem Sa.start (t r : Tr) (s : Se) (w : World) : Sa w r s (((w.alloc (.cells t.cells.toArray 74)).alloc (.cells r.cells.toArray 60)).alloc (.cells s.cells.toArray 70)) :=
  ⟨(row_at (by simp) _ _).alloc _, row_at (by simp) _ _, (((Below.refl _ w).alloc (Nat.le_refl _) _).alloc (by simp) _).alloc (by simp; omega) _⟩
end Go.Proofs.YthckledagggoiaaGreatDoor

set_option linter.unusedSimpArgs false
set_option linter.unusedVariables false
namespace Go.Proofs.YthckledagggoiaaGreatDoor
open Go.RowKit Go.Shelf Fk
attribute [local go_sem] Oper.semAt_some wide_fn'
def readTo (s : Se) (k : Nat) : Tr := ⟨if 0 < k then numC s.x.b else 0, if 1 < k then numC s.y.b else 0, if 2 < k then numC s.z.b else 0⟩
theorem readTo_set (s : Se) {k : Nat} (h : k < 3) : (readTo s k).cells.set k (.int .i64 (numC (s.get k).b)) = (readTo s (k + 1)).cells := by
  rcases (show k = 0 ∨ k = 1 ∨ k = 2 by omega) with rfl | rfl | rfl <;> rfl

set_option maxRecDepth 100000 in
set_option maxHeartbeats 2000000 in
theorem read_bad (s : Se) (w : World) (hc : okS s = false) :
    Calls Tryz.prog 25 #[s.val] w fun e w' => e = .returned (.tuple #[(default : Tr).val, .int .i64 100]) ∧ Below w.heap.size w w' := by
  have hch := fun w => echeck_any s w
  have e3 : chS s = 100 := by unfold chS; rw [hc]; rfl
  rw [e3] at hch
  have hA : ∀ W, Below ((w.alloc (.cells s.cells.toArray 70)).alloc (.cells (default : Tr).cells.toArray 74)).heap.size ((w.alloc (.cells s.cells.toArray 70)).alloc (.cells (default : Tr).cells.toArray 74)) W →
      Row W (w.heap.size + 1) 74 (default : Tr).cells ∧ Below w.heap.size w W := fun W hb =>
    ⟨Row.keep (row_at (w := w.alloc (.cells s.cells.toArray 70)) (by simp) 74 (default : Tr).cells) (hb.block _ (by simp)), (((Below.refl _ w).alloc (Nat.le_refl _) _).alloc (by simp) _).trans (hb.mono (by simp; omega))⟩
  unfold Se.val at hch
  have HCH := Lib.hid hch
  have HA := Lib.hid hA
  clear e3 hch hA
  unfold Se.val
  go_enter Tryz.func25, Tryz.ntmps25
  go_wp2_with (go_at_call 65; refine (HCH.out _).mono ?_; rintro e w1 ⟨rfl, hb⟩; obtain ⟨ho, hb⟩ := HA.out _ hb; have ho2 : Row w1 (w.heap.size + 1) 74 [.int .i64 0, .int .i64 0, .int .i64 0] := ho; have q0 := Row.cell ho2 0; have q1 := Row.cell ho2 1; have q2 := Row.cell ho2 2; simp only [List.getElem?_cons_zero, List.getElem?_cons_succ] at q0 q1 q2; obtain ⟨f0, f1, f2⟩ := RowT.free ho)
  have h6 : Row (((w1.setCell ⟨w.heap.size + 1, 0, none⟩ (.int .i64 0)).setCell ⟨w.heap.size + 1, 1, none⟩ (.int .i64 0)).setCell ⟨w.heap.size + 1, 2, none⟩ (.int .i64 0)) (w.heap.size + 1) 74 [.int .i64 0, .int .i64 0, .int .i64 0] := Row.store (Row.store (Row.store ho2 0 _) 1 _) 2 _
  have hB6 : Below w.heap.size w (((w1.setCell ⟨w.heap.size + 1, 0, none⟩ (.int .i64 0)).setCell ⟨w.heap.size + 1, 1, none⟩ (.int .i64 0)).setCell ⟨w.heap.size + 1, 2, none⟩ (.int .i64 0)) := ((hb.setCell (by simp only []; omega) _).setCell (by simp only []; omega) _).setCell (by simp only []; omega) _
  generalize (((w1.setCell ⟨w.heap.size + 1, 0, none⟩ (.int .i64 0)).setCell ⟨w.heap.size + 1, 1, none⟩ (.int .i64 0)).setCell ⟨w.heap.size + 1, 2, none⟩ (.int .i64 0)) = W6 at *
  have p0 := Row.cell h6 0
  have p1 := Row.cell h6 1
  have p2 := Row.cell h6 2
  simp only [List.getElem?_cons_zero, List.getElem?_cons_succ] at p0 p1 p2
  exact bodyPost_ret (v := .tuple #[.agg #[.int .i64 0, .int .i64 0, .int .i64 0], .int .i64 100]) (by simp [results, Tryz.results25, go_sem, p0, p1, p2]) rfl ⟨rfl, hB6⟩

set_option maxRecDepth 100000 in
set_option maxHeartbeats 2000000 in
theorem read_ok (s : Se) (w : World) (hc : okS s = true) :
    Calls Tryz.prog 25 #[s.val] w fun e w' => e = .returned (.tuple #[(readTo s 3).val, .int .i64 0]) ∧ Below w.heap.size w w' := by
  have hch := fun w => echeck_any s w
  have e3 : chS s = 0 := by unfold chS; rw [hc]; rfl
  rw [e3] at hch
  have hA : ∀ W, Below ((w.alloc (.cells s.cells.toArray 70)).alloc (.cells (default : Tr).cells.toArray 74)).heap.size ((w.alloc (.cells s.cells.toArray 70)).alloc (.cells (default : Tr).cells.toArray 74)) W →
      RowS W w.heap.size s ∧ Row W (w.heap.size + 1) 74 (default : Tr).cells ∧ Below w.heap.size w W ∧ w.heap.size + 2 ≤ W.heap.size := fun W hb =>
    ⟨Row.keep ((Row.new w 70 s.cells).alloc _) (hb.block _ (by simp; omega)), Row.keep (row_at (w := w.alloc (.cells s.cells.toArray 70)) (by simp) 74 (default : Tr).cells) (hb.block _ (by simp)),
      (((Below.refl _ w).alloc (Nat.le_refl _) _).alloc (by simp) _).trans (hb.mono (by simp; omega)), by have := hb.size; simp at this; omega⟩
  unfold Se.val at hch
  have HCH := Lib.hid hch
  have HA := Lib.hid hA
  clear e3 hch hA
  refine (callsIn_wide (n := 3)).1 ?_
  refine callsIn_of_wp_marks Tryz.func25 rfl trivial ?_ rfl
  simp only [Tryz.ntmps25, List.size_toArray, List.length_cons, List.length_nil, Nat.reduceAdd, Nat.reduceSub, Array.replicate_succ, Array.replicate_zero, List.push_toArray, List.append_toArray, List.nil_append, List.cons_append]
  unfold Se.val
  gi_wp2_with (first
    | (gi_at_call 65; refine (callsIn_wide.2 (HCH.out _)).mono ?_; rintro e w1 ⟨rfl, hb⟩; obtain ⟨hs, ho, hb, hz1⟩ := HA.out _ hb)
    | (gi_at_call 70; refine (callsIn_wide.2 (ciphers_any _ _)).mono ?_; rintro e w' ⟨rfl, rfl⟩))
  obtain ⟨W0, hW0⟩ : ∃ W0 : World, w1.alloc (Obj.cells #[Value.pointer (some { block := w.heap.size, off := 0 })] 128) = W0 := ⟨_, rfl⟩
  have hz : W0.heap.size = w1.heap.size + 1 := by rw [← hW0]; simp
  have hR : RowS W0 w.heap.size s := by rw [← hW0]; exact Row.alloc hs _
  have hO : Row W0 (w.heap.size + 1) 74 (readTo s 0).cells := by rw [← hW0]; exact Row.alloc ho _
  have hP : Boxed W0 w1.heap.size 128 (.pointer (some ⟨w.heap.size, 0, none⟩)) := by rw [← hW0]; exact Boxed.new _ _ _
  have hBW : Below w.heap.size w W0 := by rw [← hW0]; exact hb.alloc hb.size _
  rw [hW0]
  clear hW0
  refine wpIn_rangeL (w := W0) rfl (by omega) (gf := 119) (lb := #[.pointer (some ⟨w1.heap.size, 0, none⟩)]) rfl trivial (enters_of Tryz.func119 (by kernel_rfl) rfl)
    (ciphers_seq w.heap.size w1.heap.size _ 2 (by omega))
    (fun W hW => (hW.block _ (by omega)).trans hP) (by omega) (fun h => h) (fun h => h)
    (fun v hv => by obtain ⟨p, _, rfl⟩ := List.mem_map.1 hv; rfl)
    (fun k W => RowS W w.heap.size s ∧ Row W (w.heap.size + 1) 74 (readTo s k).cells ∧ Below w.heap.size w W)
    (fun _ _ _ => False)
    (fun k W W' row ⟨h1, h2, h4⟩ hg hr => ⟨h1.kept hg (fun e => by have := (hr _ e.symm).resolve_left (fun h => h); omega), Row.keep h2 (hg.block _ (Row.lt h2) (fun e => by have := (hr _ e.symm).resolve_left (fun h => h); omega)), h4.grown hg h4.size (fun r e => by have := (hr _ e).resolve_left (fun h => h); omega)⟩)
    (fun _ _ _ _ _ hs _ _ => hs.elim)
    ⟨hR, hO, hBW⟩
    (fun k a' _ => k < 3 ∧ a' = { tmps := #[Value.agg #[Value.int IntKind.i64 s.x.a, Value.int IntKind.i64 s.x.b, Value.int IntKind.i64 s.y.a, Value.int IntKind.i64 s.y.b, Value.int IntKind.i64 s.z.a, Value.int IntKind.i64 s.z.b],
            Value.pointer (some { block := w.heap.size, off := 0 }), Value.pointer (some { block := w.heap.size + 1, off := 0 }), Value.int IntKind.i64 0, Value.int IntKind.i64 0,
            .int .i64 (k : Int), .pointer (some ⟨w.heap.size, k * 2, none⟩), Value.agg #[Value.int IntKind.i64 s.x.a, Value.int IntKind.i64 s.x.b, Value.int IntKind.i64 s.y.a, Value.int IntKind.i64 s.y.b, Value.int IntKind.i64 s.z.a, Value.int IntKind.i64 s.z.b],
            Value.int IntKind.i64 0, Value.int IntKind.i64 0, Value.bool false, undef, undef,
            Value.func (Fn.func 119) #[] #[Value.pointer (some { block := w1.heap.size, off := 0 })], .int .i64 (k : Int), .pointer (some ⟨w.heap.size, k * 2, none⟩),
            undef, undef, undef, undef, undef, undef, undef, undef, undef, undef, undef], defers := [] })
    (fun _ _ _ _ _ _ hs _ _ => hs) ?assign ?body ?done ?stop
  case assign =>
    intro l k v W K hI hv hsz hK
    obtain ⟨hk, rfl⟩ := ciVals_some hv
    clear hv
    unfold ciV
    gi_wp2
    exact hK _ _ (Kept.refl _ _) (SameOn.refl _ _) hI ⟨hk, rfl⟩
  case body =>
    rintro l k v a' W ⟨h1, h2, h4⟩ ⟨hk, rfl⟩ hv hsz
    have c2 := h1.cb hk
    have f1 := Row.frozen h2 k
    have hst := readTo_set s hk
    have hn := fun w => number_any (s.get k).b w
    obtain ⟨x, hx⟩ : ∃ x, numC (s.get k).b = x := ⟨_, rfl⟩
    rw [hx] at hst hn
    generalize numE (s.get k).b = y at hn
    have hbx : ∃ v, W.cell? ⟨w.heap.size + 1, k, none⟩ = some v := by
      rw [Row.cell h2]
      rcases (show k = 0 ∨ k = 1 ∨ k = 2 by omega) with rfl | rfl | rfl <;> exact ⟨_, rfl⟩
    obtain ⟨v0, c3⟩ := hbx
    generalize (s.get k).b = bb at c2 hn
    have HST := Lib.hid hst
    have HN := Lib.hid hn
    have s5 : (0 : Int) ≤ k := by omega
    have s6 : (k : Int) < 3 := by omega
    clear hv hst hn hx
    gi_wp2_with (gi_at_call 71; refine (callsIn_wide.2 (HN.out _)).mono ?_; rintro e w' ⟨rfl, rfl⟩)
    refine ⟨Kept.setCell _ _ (by simp only []; omega) (by simp only []; omega), ?_, Row.other h1 (p := ⟨w.heap.size + 1, k, none⟩) (by simp only []; omega) _, ?_, h4.setCell (p := ⟨w.heap.size + 1, k, none⟩) (by simp only []; omega) _⟩
    · intro r hr
      have : r = w1.heap.size := hr
      exact Below.heap_setCell _ _ _ r (by simp only []; omega)
    · have := Row.store h2 k (.int .i64 x)
      rw [HST.out] at this
      exact this
  case done =>
    rintro W ⟨h1, h2, h4⟩ hsz hD
    rw [ciVals_length] at h2
    obtain ⟨t, ht⟩ : ∃ t, readTo s 3 = t := ⟨_, rfl⟩
    rw [ht] at h2
    have HT := Lib.hid ht
    clear ht
    obtain ⟨c0, c1, c2⟩ := RowT.three h2
    obtain ⟨f0, f1, f2⟩ := RowT.free h2
    gi_wp2
    have h6 : Row (((W.setCell ⟨w.heap.size + 1, 0, none⟩ (.int .i64 t.p)).setCell ⟨w.heap.size + 1, 1, none⟩ (.int .i64 t.q)).setCell ⟨w.heap.size + 1, 2, none⟩ (.int .i64 t.r)) (w.heap.size + 1) 74 t.cells := Row.store (Row.store (Row.store h2 0 _) 1 _) 2 _
    have hB6 : Below w.heap.size w (((W.setCell ⟨w.heap.size + 1, 0, none⟩ (.int .i64 t.p)).setCell ⟨w.heap.size + 1, 1, none⟩ (.int .i64 t.q)).setCell ⟨w.heap.size + 1, 2, none⟩ (.int .i64 t.r)) := ((h4.setCell (by simp only []; omega) _).setCell (by simp only []; omega) _).setCell (by simp only []; omega) _
    have hD6 : (((W.setCell ⟨w.heap.size + 1, 0, none⟩ (.int .i64 t.p)).setCell ⟨w.heap.size + 1, 1, none⟩ (.int .i64 t.q)).setCell ⟨w.heap.size + 1, 2, none⟩ (.int .i64 t.r)).heap[W0.heap.size]? = some (.deferred (some [])) := by
      refine (Below.heap_setCell _ _ _ _ ?_).trans ((Below.heap_setCell _ _ _ _ ?_).trans ((Below.heap_setCell _ _ _ _ ?_).trans hD)) <;> (simp only []; omega)
    generalize (((W.setCell ⟨w.heap.size + 1, 0, none⟩ (.int .i64 t.p)).setCell ⟨w.heap.size + 1, 1, none⟩ (.int .i64 t.q)).setCell ⟨w.heap.size + 1, 2, none⟩ (.int .i64 t.r)) = W6 at *
    refine ⟨by simp, .inl ⟨_, _, rfl, run_takeDeferred hD6, ?_⟩⟩
    have h7 := Row.keep h6 ((grownBy_putObj' W6 W0.heap.size (.deferred none)).block _ (Row.lt h6) (by simp; omega))
    obtain ⟨d0, d1, d2⟩ := RowT.three h7
    refine ⟨.tuple #[t.val, .int .i64 0], ?_, by rw [HT.out], ?_⟩
    · simp [results, Tryz.f25, go_sem, d0, d1, d2, Tr.val]
    · exact hB6.grown (grownBy_putObj' _ W0.heap.size (.deferred none)) hB6.size (fun r e => by cases e; omega)
  case stop =>
    rintro c k W _ h _ _
    exact h.elim
theorem read_any (s : Se) (w : World) :
    Calls Tryz.prog 25 #[s.val] w fun e w' => e = .returned (.tuple #[(readC s).val, .int .i64 (chS s)]) ∧ Below w.heap.size w w' := by
  cases hc : okS s with
  | false =>
    have e1 : readC s = default := by unfold readC; rw [hc]; rfl
    have e2 : chS s = 100 := by unfold chS; rw [hc]; rfl
    rw [e1, e2]; exact read_bad s w hc
  | true =>
    have e1 : readC s = readTo s 3 := by unfold readC; rw [hc]; rfl
    have e2 : chS s = 0 := by unfold chS; rw [hc]; rfl
    rw [e1, e2]; exact read_ok s w hc
end Go.Proofs.YthckledagggoiaaGreatDoor

set_option linter.unusedSimpArgs false
namespace Go.Proofs.YthckledagggoiaaGreatDoor
open Fk
def eqTr (s t : Tr) : Bool := s.p == t.p && (s.q == t.q && s.r == t.r)
theorem runT (s t : Tr) (w : World) : (Op.equalIn 10000 74 s.val t.val).run Tryz.prog w = .ok (eqTr s t) w := by
  have u3 := Tryz.underlying3
  have a3 := Tryz.isAgg3
  have z3 := Tryz.sizeOf3
  unfold Tr.val eqTr
  rw [show (10000 : Nat) = 9999 + 1 from rfl, Op.equalIn]
  simp only [Sem.run_bind, run_underlying Tryz.underlying74, Result.andThen_ok]
  simp only [Std.Legacy.Range.forIn_eq_forIn_range', Std.Legacy.Range.size, Nat.sub_zero, Nat.add_sub_cancel, Nat.div_one, List.range'_succ, List.range'_zero, List.forIn_cons, List.forIn_nil]
  go_simp
  by_cases h1 : s.p = t.p <;> by_cases h2 : s.q = t.q <;> by_cases h3 : s.r = t.r <;> simp [h1, h2, h3]
end Go.Proofs.YthckledagggoiaaGreatDoor
