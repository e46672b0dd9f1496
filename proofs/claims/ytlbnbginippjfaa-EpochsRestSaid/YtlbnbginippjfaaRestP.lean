import Derived.Test.YtlbnbginippjfaaAlg
/-! Products of keys and of those that follow. -/
namespace Fk
def restL : List Int → List Int
  | [] => [1]
  | k :: r => mulC k ((restL r).headD 0) :: restL r
def allV (l : List Int) : Bool := l.all vld
def restE (l : List Int) : Int := if 24 < l.length then 2 else if allV l then 0 else 90
def restV (l : List Int) : List Int := if restE l = 0 then restL l else []
theorem restL_length : ∀ l : List Int, (restL l).length = l.length + 1
  | [] => rfl
  | k :: r => by rw [restL, List.length_cons, restL_length r, List.length_cons]
theorem restL_head {l : List Int} (h : allV l = true) : vld ((restL l).headD 0) = true := by
  induction l with
  | nil => exact vld_1
  | cons k r ih =>
    simp only [allV, List.all_cons, Bool.and_eq_true] at h
    exact vld_mul h.1 (ih h.2)
theorem drop_consD {l : List Int} {k : Nat} (h : k < l.length) : l.drop k = l.getD k default :: l.drop (k + 1) := by
  rw [List.drop_eq_getElem_cons h]; simp [h]
theorem allV_drop {l : List Int} {k : Nat} (h : k < l.length) : allV (l.drop k) = (vld (l.getD k default) && allV (l.drop (k + 1))) := by
  rw [drop_consD h]; rfl
theorem allV_false {l : List Int} {k : Nat} (h : allV (l.drop k) = false) : allV l = false := by
  have : l = l.take k ++ l.drop k := (List.take_append_drop k l).symm
  unfold allV at *
  rw [this, List.all_append, h, Bool.and_false]
end Fk
