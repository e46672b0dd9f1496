import Derived.Test.YtlbnbginippjfaaAlg
/-! Epochs and shares, in plain words. -/
namespace Fk
structure Ep where
  o : Int
  f : Int
  k : Int
instance : Inhabited Ep := ⟨⟨0, 0, 0⟩⟩
def epOK (x : Ep) : Prop := 0 ≤ x.o ∧ 0 ≤ x.f ∧ x.o < 24 ∧ x.f < 2097152 ∧ x.k ≠ 1 ∧ vld x.k = true
def epLt (p x : Ep) : Prop := p.o < x.o ∨ (p.o = x.o ∧ p.f < x.f)
/-- the i-th epoch is in form, and behind the one before it -/
def goodAt (l : List Ep) (i : Nat) : Prop := epOK (l.getD i default) ∧ (0 < i → epLt (l.getD (i - 1) default) (l.getD i default))
def allGood (l : List Ep) : Prop := ∀ i, i < l.length → goodAt l i
open Classical in
noncomputable def chkE (l : List Ep) : Int := if 256 < l.length then 2 else if allGood l then 0 else 470
theorem chkE_long {l : List Ep} (h : 256 < l.length) : chkE l = 2 := by unfold chkE; rw [if_pos h]
theorem chkE_good {l : List Ep} (h : ¬ 256 < l.length) (hg : allGood l) : chkE l = 0 := by unfold chkE; rw [if_neg h, if_pos hg]
theorem chkE_bad {l : List Ep} (h : ¬ 256 < l.length) {i : Nat} (hi : i < l.length) (hg : ¬ goodAt l i) : chkE l = 470 := by
  unfold chkE; rw [if_neg h, if_neg (fun hc => hg (hc i hi))]
end Fk
