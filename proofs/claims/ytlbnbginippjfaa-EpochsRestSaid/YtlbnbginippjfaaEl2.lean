import Derived.Test.YtlbnbginippjfaaEl1
import Derived.Test.YtlbnbginippjfaaGroupRef
import Derived.Deep.LoopGhost
namespace Go.Proofs.Ytlbnbginippjfaa
open Go.RowKit Fk

theorem take_snocI {l : List Int} {k : Nat} (h : k < l.length) : l.take (k + 1) = l.take k ++ [l.getD k default] := by
  rw [List.take_succ_eq_append_getElem h]; simp [h]
theorem join_step {l : List Int} {k : Nat} {c : Int} (h : k < l.length) (hj : joinTo (l.take k) = some c) (hm : mulE c (l.getD k default) = 0) : joinTo (l.take (k + 1)) = some (mulC c (l.getD k default)) := by
  rw [take_snocI h, joinTo_snoc, hj]
  unfold mulE at hm
  split at hm
  · rename_i h1
    simp only
    rw [if_pos h1]; unfold mulC; rw [if_pos h1]
  · cases hm
theorem join_bad {l : List Int} {k : Nat} {c : Int} (h : k < l.length) (hj : joinTo (l.take k) = some c) (hm : mulE c (l.getD k default) ≠ 0) : joinTo l = none ∧ mulE c (l.getD k default) = 90 := by
  unfold mulE at *
  split at hm
  · exact absurd rfl hm
  · rename_i h1
    refine ⟨?_, by rw [if_neg h1]⟩
    have : joinTo (l.take (k + 1)) = none := by
      rw [take_snocI h, joinTo_snoc, hj]
      simp only
      rw [if_neg h1]
    rw [← List.take_append_drop (k + 1) l]
    exact joinTo_none this

set_option maxHeartbeats 1000000 in
theorem fold_any (l : List Int) (v : Value) (w : World) (B0 : Nat) (h : SlI w B0 v l) :
    Calls Try.prog 38 #[v, .int .i64 1, .func (.func 30) #[] #[]] w fun e w' => e = .returned (.tuple #[.int .i64 ((joinTo l).getD 1), .int .i64 (joinE l)]) ∧ w = w' := by
  have HS := Lib.hid h
  obtain ⟨hlen, A, c, rfl, _⟩ := h
  go_enter Try.func38, Try.ntmps38
  go_wp2_with fail
  go_loopg [6, 7, 13] l.length (fun g x e i wr => w = wr ∧ ∃ (k : Nat) (c : Int), i = .int .i64 k ∧ k + g = l.length ∧ x = .int .i64 c ∧ Hid (joinTo (l.take k) = some c))
  case atStart => exact ⟨rfl, 0, 1, rfl, by omega, rfl, rfl⟩
  case round =>
    obtain ⟨rfl, k, cc, rfl, hk, rfl, hj⟩ := hrel
    by_cases hlt : k < l.length
    · obtain ⟨_, A', c', hv, hE⟩ := HS.out
      obtain ⟨b, off, rfl, hb, hE⟩ := hE (by omega)
      cases hv
      have d1 := hE.int hlt
      have hg := fun h => join_step hlt hj.out h
      have hbad := fun h => join_bad hlt hj.out h
      obtain ⟨x, hx⟩ : ∃ x, l.getD k default = x := ⟨_, rfl⟩
      rw [hx] at d1 hg hbad
      have hm := fun w => mul_any cc x w
      by_cases he : mulE cc x = 0
      · have hg' := Lib.hid (hg he)
        rw [he] at hm
        obtain ⟨m, hmm⟩ : ∃ m, mulC cc x = m := ⟨_, rfl⟩
        rw [hmm] at hm hg'
        have HM := Lib.hid hm
        clear hg hbad hm he hmm hx hE
        go_wp2_with (go_at_call 30; refine (HM.out _).mono ?_; rintro e w1 ⟨rfl, rfl⟩)
        go_roundg (gk - 1)
        case measure => omega
        case rel => exact ⟨rfl, k + 1, m, by go_num, by omega, rfl, hg'.out⟩
      · obtain ⟨b1, b2⟩ := hbad he
        have e1 : (joinTo l).getD 1 = 1 := by rw [b1]; rfl
        have e2 : joinE l = 90 := by unfold joinE; rw [b1]; rfl
        rw [b2] at hm
        obtain ⟨m, hmm⟩ : ∃ m, mulC cc x = m := ⟨_, rfl⟩
        rw [hmm] at hm
        have HM := Lib.hid hm
        have E1 := Lib.hid e1
        have E2 := Lib.hid e2
        clear hg hbad hm he hmm hx hE b1 b2 e1 e2
        go_wp2_with (go_at_call 30; refine (HM.out _).mono ?_; rintro e w1 ⟨rfl, rfl⟩)
        go_ret2
        exact ⟨ret_int2 E1.out.symm E2.out.symm, rfl⟩
    · obtain rfl : k = l.length := by omega
      have e := hj.out
      rw [List.take_length] at e
      have e1 : (joinTo l).getD 1 = cc := by rw [e]; rfl
      have e2 : joinE l = 0 := by unfold joinE; rw [e]; rfl
      have E1 := Lib.hid e1
      have E2 := Lib.hid e2
      clear e e1 e2 hj
      go_wp2_with fail
      go_ret2
      exact ⟨ret_int2 E1.out.symm E2.out.symm, rfl⟩

set_option maxHeartbeats 400000 in
theorem join_any (l : List Int) (v : Value) (w : World) (B0 : Nat) (h : SlI w B0 v l) :
    Calls Try.prog 14 #[v] w fun e w' => e = .returned (.tuple #[.int .i64 (joinC l), .int .i64 (joinE l)]) ∧ w = w' := by
  have hf := fold_any l v w B0 h
  cases hj : joinTo l with
  | none =>
    have e1 : joinC l = 0 := by unfold joinC; rw [hj]; rfl
    have e2 : joinE l = 90 := by unfold joinE; rw [hj]; rfl
    rw [hj, e2] at hf
    rw [e1, e2]
    have HF := Lib.hid hf
    clear hf e1 e2 hj
    go_enter Try.func14, Try.ntmps14
    go_wp2_with (go_at_call 38; refine HF.out.mono ?_; rintro e w1 ⟨rfl, rfl⟩)
    go_ret2
    exact ⟨rfl, rfl⟩
  | some c =>
    have e1 : joinC l = c := by unfold joinC; rw [hj]; rfl
    have e2 : joinE l = 0 := by unfold joinE; rw [hj]; rfl
    rw [hj, e2] at hf
    rw [e1, e2]
    have hf2 : Calls Try.prog 38 #[v, .int .i64 1, .func (.func 30) #[] #[]] w fun e w' => e = .returned (.tuple #[.int .i64 c, .int .i64 0]) ∧ w = w' := hf
    have HF := Lib.hid hf2
    clear hf hf2 e1 e2 hj
    go_enter Try.func14, Try.ntmps14
    go_wp2_with (go_at_call 38; refine HF.out.mono ?_; rintro e w1 ⟨rfl, rfl⟩)
    go_ret2
    exact ⟨rfl, rfl⟩
end Go.Proofs.Ytlbnbginippjfaa
