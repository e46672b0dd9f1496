import Derived.Test.YtlbnbginippjfaaGrp
/-! Shares, in plain words: values of polynomials modulo Q. -/
namespace Fk
structure Sh where
  a : Int
  v : Int
instance : Inhabited Sh := ⟨⟨0, 0⟩⟩
def hornerQ (x : Int) : List Int → Int
  | [] => 0
  | m :: r => (hornerQ x r + m % 1073741789) * x % 1073741789
def pval (s : Int) (more : List Int) (x : Int) : Int := (hornerQ x more + s) % 1073741789
theorem hornerQ_bd (x : Int) (l : List Int) : 0 ≤ hornerQ x l ∧ hornerQ x l < 1073741789 := by
  cases l with
  | nil => simp [hornerQ]
  | cons m r => rw [hornerQ]; omega
theorem pval_bd (s : Int) (l : List Int) (x : Int) : 0 ≤ pval s l x ∧ pval s l x < 1073741789 := by
  unfold pval; omega
def dealOK (s : Int) (k : Nat) (n : Int) : Prop := 1 ≤ s ∧ s < 1073741789 ∧ 1 ≤ n ∧ n ≤ 24 ∧ (k : Int) < n
def dealTo (s : Int) (more : List Int) (k : Nat) : List Sh := (List.range k).map fun (i : Nat) => ⟨(i : Int) + 1, pval s more ((i : Int) + 1)⟩
theorem dealTo_succ (s : Int) (more : List Int) (k : Nat) : dealTo s more (k + 1) = dealTo s more k ++ [⟨(k : Int) + 1, pval s more ((k : Int) + 1)⟩] := by
  unfold dealTo; rw [List.range_succ, List.map_append]; rfl
theorem dealTo_length (s : Int) (more : List Int) (k : Nat) : (dealTo s more k).length = k := by simp [dealTo]
def dealE (s : Int) (k : Nat) (n : Int) : Int := if s < 1 ∨ 1073741789 ≤ s then 110 else if n < 1 ∨ 24 < n ∨ n ≤ k then 1 else 0
def dealV (s : Int) (more : List Int) (n : Int) : List Sh := if dealE s more.length n = 0 then dealTo s more n.toNat else []
end Fk
