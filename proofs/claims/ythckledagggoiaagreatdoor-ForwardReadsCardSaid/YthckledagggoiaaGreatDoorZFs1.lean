import Derived.Test.YthckledagggoiaaGreatDoorZFs0
import Derived.Test.YthckledagggoiaaGreatDoorZMn
set_option linter.unusedSimpArgs false
set_option linter.unusedVariables false
namespace Go.Proofs.YthckledagggoiaaGreatDoor
open Go.RowKit Go.Shelf Fk Sha
/-! What Next answers: a home alone, or a return address, too. -/
def backZ (x : Fw) : Prop := 0 = x.line ∧ 0 = x.key ∧ 0 = x.a ∧ 0 = x.b ∧ zeroD = x.ds
theorem backZ_home (t : Int × Int × Int) : backZ (homeF t) := ⟨rfl, rfl, rfl, rfl, rfl⟩
theorem backZ_zero : backZ zeroF := ⟨rfl, rfl, rfl, rfl, rfl⟩
theorem idxO_lt {l : List Lx} {o te : Int} {k : Nat} (h : idxO l o te = some k) : k < l.length := (findK_is h).1
structure FullN (l : List Lx) (n : Int) (keys : List Int) (s : Int) (en : List En) (people office al day time r : Int) (h : Int × Int × Int) (k : Nat) : Prop where
  tt : ttE l n = 0
  chk : chkK l keys s people office = 0
  fnd : (findV s people office al).2 = true
  opn : openE en (findV s people office al).1 day time = 0
  whr : h = whereH en (findV s people office al).1 day time
  dlv : h.1 = 1
  off : h.2.2 ≠ office
  idx : idxO l office h.2.2 = some k
  cke : ckE s h.2.2 (idP h.2.1) = 0
theorem nextR_back (l : List Lx) (n : Int) (keys : List Int) (s : Int) (en : List En) (people office al day time r : Int) :
    backZ (nextR l n keys s en people office al day time r).1 ∨ ∃ (h : Int × Int × Int) (k : Nat), nextR l n keys s en people office al day time r = (fullF h k (keys.getD k default) (aliasA s h.2.1 h.2.2) r, 0) ∧ FullN l n keys s en people office al day time r h k := by
  unfold nextR
  by_cases h1 : ttE l n = 0
  · rw [if_neg (by simp [h1])]
    by_cases h2 : chkK l keys s people office = 0
    · rw [if_neg (by simp [h2])]
      by_cases h3 : (findV s people office al).2 = false
      · rw [if_pos h3]; exact .inl backZ_zero
      · rw [if_neg h3]
        by_cases h4 : openE en (findV s people office al).1 day time = 0
        · rw [if_neg (by simp [h4])]
          unfold moreR
          by_cases h5 : (whereH en (findV s people office al).1 day time).1 ≠ 1 ∨ (whereH en (findV s people office al).1 day time).2.2 = office
          · rw [if_pos h5]; exact .inl (backZ_home _)
          · rw [if_neg h5]
            cases h6 : idxO l office (whereH en (findV s people office al).1 day time).2.2 with
            | none => exact .inl (backZ_home _)
            | some k =>
              simp only
              by_cases h7 : ckE s (whereH en (findV s people office al).1 day time).2.2 (idP (whereH en (findV s people office al).1 day time).2.1) = 0
              · rw [if_neg (by simp [h7])]
                refine .inr ⟨_, k, rfl, ⟨h1, h2, by simpa using h3, h4, rfl, ?_, ?_, h6, h7⟩⟩
                · exact Classical.byContradiction fun hc => h5 (.inl hc)
                · exact fun hc => h5 (.inr hc)
              · rw [if_pos h7]; exact .inl backZ_zero
        · rw [if_pos h4]; exact .inl backZ_zero
    · rw [if_pos h2]; exact .inl backZ_zero
  · rw [if_pos h1]; exact .inl backZ_zero
theorem FullN.k64 {l : List Lx} {n : Int} {keys : List Int} {s : Int} {en : List En} {people office al day time r : Int} {h : Int × Int × Int} {k : Nat} (H : FullN l n keys s en people office al day time r h k) :
    k < l.length ∧ l.length ≤ 64 ∧ keys.length = l.length ∧ vld (keys.getD k default) = true := by
  have h1 := idxO_lt H.idx
  have h2 := (ttE_0 H.tt).1
  have h3 := chkK_0 H.chk
  exact ⟨h1, h2, h3.1, all_at h3.2.1 (by omega)⟩
theorem okN_v {x : Int} (h : vld x = true) : okN x := by have := vld_bd h; unfold okN; omega
theorem makeA_bd (r : Int) : 0 ≤ makeA r ∧ makeA r < 2147483579 := by unfold makeA timesC; exact mulC_bd _ _
theorem makeB_bd (key al r : Int) : 0 ≤ makeB key al r ∧ makeB key al r < 2147483579 := by unfold makeB timesC; exact mulC_bd _ _
def backOK (x : Fw) : Prop := okN x.line ∧ okN x.key ∧ okN x.a ∧ okN x.b ∧ x.ds.length = 32
set_option maxRecDepth 100000 in
theorem backZ_ok {x : Fw} (h : backZ x) : backOK x := by
  obtain ⟨h1, h2, h3, h4, h5⟩ := h
  unfold backOK
  rw [← h1, ← h2, ← h3, ← h4, ← h5]
  unfold okN
  exact ⟨by omega, by omega, by omega, by omega, rfl⟩
set_option maxRecDepth 100000 in
theorem fullF_ok {h : Int × Int × Int} {k : Nat} {key al r : Int} (hk : k < 64) (hv : vld key = true) : backOK (fullF h k key al r) := by
  have e0 : okN (k : Int) := okN_of (m := 64) (by omega) (by decide)
  have h1 := makeA_bd r
  have h2 := makeB_bd key al r
  have e1 : okN (makeA r) := okN_of h1 (by decide)
  have e2 : okN (makeB key al r) := okN_of h2 (by decide)
  have e3 := tagN_len k key (makeA r) (makeB key al r)
  have hk : ∀ (u v : Int) (ds : List B), okN u → okN v → ds.length = 32 → backOK ⟨h.1, h.2.1, h.2.2, k, key, u, v, ds⟩ := fun _ _ _ a b c => ⟨e0, okN_v hv, a, b, c⟩
  exact hk (makeA r) (makeB key al r) _ e1 e2 e3
set_option maxRecDepth 100000 in
theorem nextR_ok (l : List Lx) (n : Int) (keys : List Int) (s : Int) (en : List En) (people office al day time r : Int) : backOK (nextR l n keys s en people office al day time r).1 := by
  rcases nextR_back l n keys s en people office al day time r with h | ⟨h, k, e, H⟩
  · exact backZ_ok h
  · rw [e]
    have := H.k64
    exact fullF_ok (by omega) this.2.2.2
set_option maxRecDepth 100000 in
theorem full_notZ {h : Int × Int × Int} {k : Nat} {key al r : Int} (hv : vld key = true) : ¬ backZ (fullF h k key al r) := by
  intro hz
  have h1 : (0 : Int) = key := hz.2.1
  have := vld_bd hv
  omega
instance (x : Fw) : Decidable (backZ x) := by unfold backZ; infer_instance
theorem aliasA_bd {s p o : Int} (h : ckE s o (idP p) = 0) : 1 ≤ aliasA s p o ∧ aliasA s p o ≤ 1073741789 := by
  unfold aliasA
  rw [if_pos h]
  exact aliasN_bd s p o
end Go.Proofs.YthckledagggoiaaGreatDoor
