import Derived.Test.YtlenfjpogmmfhaaSharesP
import Derived.Test.YtlenfjpogmmfhaaRef11
/-! Other further numbers for another secret, in plain words. -/
namespace Fk
open Go.Proofs.Ytlenfjpogmmfhaa (timesQ quotQ timesQ_bd)
/-! ### polynomials over the field -/
def lsF (p c : FQ) : List FQ → List FQ
  | [] => [c]
  | a :: r => (c - a * p) :: lsF p a r
theorem lsF_ev (p x : FQ) : ∀ (l : List FQ) (c : FQ), ev (lsF p c l) x = c + (x - p) * ev l x
  | [], c => by simp only [lsF, ev]; grind
  | a :: r, c => by
    have := lsF_ev p x r a
    simp only [lsF, ev]
    rw [this]; grind
theorem lsF_length (p : FQ) : ∀ (l : List FQ) (c : FQ), (lsF p c l).length = l.length + 1
  | [], c => rfl
  | a :: r, c => by simp [lsF, lsF_length p r a]
theorem lsF_get (p : FQ) : ∀ (l : List FQ) (c : FQ) (j : Nat), j ≤ l.length → (lsF p c l).getD j 0 = (if j = 0 then c else l.getD (j - 1) 0) - l.getD j 0 * p
  | [], c, j, h => by
    obtain rfl : j = 0 := by simpa using h
    simp only [lsF, List.getD_cons_zero, List.getD_nil, if_true]; grind
  | a :: r, c, 0, _ => by simp [lsF]
  | a :: r, c, 1, h => by
    have := lsF_get p r a 0 (by omega)
    simp only [lsF, List.getD_cons_succ]
    rw [this]; simp
  | a :: r, c, j + 2, h => by
    have := lsF_get p r a (j + 1) (by simp at h; omega)
    simp only [lsF, List.getD_cons_succ]
    rw [this]; simp
def addc (c : FQ) : List FQ → List FQ → List FQ
  | [], _ => []
  | a :: r, [] => a :: r
  | a :: r, b :: t => (a + c * b) :: addc c r t
theorem addc_ev (c x : FQ) : ∀ (m t : List FQ), t.length ≤ m.length → ev (addc c m t) x = ev m x + c * ev t x
  | [], [], _ => by simp only [addc, ev]; grind
  | [], b :: t, h => by simp at h
  | a :: r, [], _ => by simp only [addc, ev]; grind
  | a :: r, b :: t, h => by
    have := addc_ev c x r t (by simpa using h)
    simp only [addc, ev]
    rw [this]; grind
theorem addc_length (c : FQ) : ∀ (m t : List FQ), (addc c m t).length = m.length
  | [], _ => by simp [addc]
  | a :: r, [] => by simp [addc]
  | a :: r, b :: t => by simp [addc, addc_length c r t]
theorem addc_get (c : FQ) : ∀ (m t : List FQ) (i : Nat), i < m.length → (addc c m t).getD i 0 = m.getD i 0 + c * t.getD i 0
  | [], _, i, h => by simp at h
  | a :: r, [], i, _ => by
    have : c * 0 = 0 := by grind
    simp only [addc, List.getD_nil, this]; grind
  | a :: r, b :: t, 0, _ => by simp [addc]
  | a :: r, b :: t, i + 1, h => by
    have := addc_get c r t i (by simpa using h)
    simp only [addc, List.getD_cons_succ]
    exact this

/-! ### the product of all x - p, as the program makes it -/
def finF (p : Int) (l : List Int) (j : Nat) : Int := ((if j = 0 then 0 else l.getD (j - 1) default % 1073741789) - timesQ (l.getD j default) p) % 1073741789
def nxF (p : Int) (l : List Int) (k j : Nat) : Int := if j < k then finF p l j else if j = k then (if k = 0 then 0 else l.getD (k - 1) default % 1073741789) else 0
def nxL (p : Int) (l : List Int) (k : Nat) : List Int := (List.range (l.length + 1)).map (nxF p l k)
theorem nxL_length (p : Int) (l : List Int) (k : Nat) : (nxL p l k).length = l.length + 1 := by simp [nxL]
theorem nxL_get {p : Int} {l : List Int} {k j : Nat} (h : j ≤ l.length) : (nxL p l k)[j]? = some (nxF p l k j) := by
  unfold nxL; rw [List.getElem?_map, List.getElem?_range (by omega)]; rfl
theorem nxL_zero (p : Int) (l : List Int) : nxL p l 0 = List.replicate (l.length + 1) 0 := by
  apply List.ext_getElem?
  intro j
  by_cases h : j ≤ l.length
  · rw [nxL_get h, List.getElem?_replicate, if_pos (by omega)]
    unfold nxF; rw [if_neg (by omega)]
    split <;> simp
  · rw [List.getElem?_eq_none (by rw [nxL_length]; omega), List.getElem?_eq_none (by simp; omega)]
theorem nxL_step {p : Int} {l : List Int} {k : Nat} (h : k < l.length) :
    ((nxL p l k).set k ((nxF p l k k - timesQ (l.getD k default) p) % 1073741789)).set (k + 1) ((nxF p l k (k + 1) + l.getD k default) % 1073741789) = nxL p l (k + 1) := by
  apply List.ext_getElem?
  intro j
  by_cases hj : j ≤ l.length
  · rw [nxL_get hj, List.getElem?_set, List.getElem?_set, nxL_get hj]
    simp only [List.length_set, nxL_length]
    by_cases h1 : k + 1 = j
    · subst h1
      rw [if_pos rfl, if_pos (by omega)]
      unfold nxF
      rw [if_neg (by omega), if_neg (by omega), if_neg (by omega), if_pos rfl, if_neg (by omega), Int.zero_add]
      rfl
    · rw [if_neg h1]
      by_cases h2 : k = j
      · subst h2
        rw [if_pos rfl, if_pos (by omega)]
        have e1 : nxF p l k k = if k = 0 then 0 else l.getD (k - 1) default % 1073741789 := by unfold nxF; rw [if_neg (by omega), if_pos rfl]
        have e2 : nxF p l (k + 1) k = finF p l k := by unfold nxF; rw [if_pos (by omega)]
        rw [e1, e2]
        rfl
      · rw [if_neg h2]
        unfold nxF
        by_cases h3 : j < k
        · rw [if_pos h3, if_pos (by omega)]
        · rw [if_neg h3, if_neg (by omega), if_neg (by omega), if_neg (by omega)]
  · rw [List.getElem?_eq_none (by simp [nxL_length]; omega), List.getElem?_eq_none (by rw [nxL_length]; omega)]
def lstep (l : List Int) (p : Int) : List Int := nxL p l l.length
def lpT (places : List Int) (k : Nat) : List Int := (places.take k).foldl lstep [1]
theorem lpT_zero (places : List Int) : lpT places 0 = [1] := by simp [lpT]
theorem lpT_succ {places : List Int} {k : Nat} (h : k < places.length) : lpT places (k + 1) = lstep (lpT places k) (places.getD k default) := by
  unfold lpT
  rw [List.take_succ_eq_append_getElem h, List.foldl_append]
  simp [h]
theorem lstep_length (l : List Int) (p : Int) : (lstep l p).length = l.length + 1 := nxL_length _ _ _
theorem lpT_length (places : List Int) : ∀ k, k ≤ places.length → (lpT places k).length = k + 1
  | 0, _ => by simp [lpT]
  | k + 1, h => by rw [lpT_succ (by omega), lstep_length, lpT_length places k (by omega)]
theorem toF_times (a b : Int) : toF (timesQ a b) = toF a * toF b := by
  unfold timesQ; rw [toF_mod, toF_mul, toF_mod, toF_mod]
theorem getD_map0 (l : List Int) (j : Nat) : (l.map toF).getD j 0 = toF (l.getD j 0) := by
  rw [List.getD_eq_getElem?_getD, List.getD_eq_getElem?_getD, List.getElem?_map]
  cases l[j]? <;> rfl
theorem getD_dflt (l : List Int) (j : Nat) : l.getD j default = l.getD j 0 := rfl
theorem lstep_F (l : List Int) (p : Int) : (lstep l p).map toF = lsF (toF p) 0 (l.map toF) := by
  apply List.ext_getElem?
  intro j
  by_cases hj : j ≤ l.length
  · have h1 : (lsF (toF p) 0 (l.map toF))[j]? = some ((lsF (toF p) 0 (l.map toF)).getD j 0) := by
      rw [List.getD_eq_getElem?_getD, List.getElem?_eq_getElem (by rw [lsF_length]; simp; omega)]; rfl
    rw [List.getElem?_map, lstep, nxL_get hj, h1, lsF_get _ _ _ _ (by simpa using hj)]
    simp only [Option.map_some]
    congr 1
    rw [getD_map0, getD_map0]
    unfold nxF
    by_cases h2 : j < l.length
    · rw [if_pos h2]
      unfold finF
      rw [toF_mod, toF_sub, toF_times, getD_dflt, getD_dflt]
      by_cases h3 : j = 0
      · rw [if_pos h3, if_pos h3]; rfl
      · rw [if_neg h3, if_neg h3, toF_mod]
    · obtain rfl : j = l.length := by omega
      rw [if_neg h2, if_pos rfl]
      have e0 : l.getD l.length 0 = 0 := by simp
      rw [e0, toF_zero]
      by_cases h3 : l.length = 0
      · rw [if_pos h3, if_pos h3, toF_zero]; grind
      · rw [if_neg h3, if_neg h3, toF_mod, getD_dflt]; grind
  · rw [List.getElem?_eq_none (by rw [List.length_map, lstep_length]; omega), List.getElem?_eq_none (by rw [lsF_length]; simp; omega)]
theorem lpT_ev {places : List Int} {k : Nat} (h : k < places.length) (x : FQ) : ev ((lpT places (k + 1)).map toF) x = (x - toF (places.getD k default)) * ev ((lpT places k).map toF) x := by
  rw [lpT_succ h, lstep_F, lsF_ev]; grind
theorem lpT_root {places : List Int} : ∀ k, k ≤ places.length → ∀ i, i < k → ev ((lpT places k).map toF) (toF (places.getD i default)) = 0
  | 0, _, i, hi => by omega
  | k + 1, hk, i, hi => by
    rw [lpT_ev (by omega)]
    by_cases h : i = k
    · subst h; grind
    · rw [lpT_root k (by omega) i (by omega)]; grind
theorem lpT_zero_ne {places : List Int} (hp : ∀ i, i < places.length → 1 ≤ places.getD i default ∧ places.getD i default ≤ 24) : ∀ k, k ≤ places.length → ev ((lpT places k).map toF) 0 ≠ 0
  | 0, _ => by rw [lpT_zero]; decide
  | k + 1, hk => by
    rw [lpT_ev (by omega)]
    have ih := lpT_zero_ne hp k (by omega)
    have hb := hp k (by omega)
    intro h
    rcases mul0F h with h | h
    · have : toF (places.getD k default) = 0 := by grind
      rw [toF_eq0] at this
      omega
    · exact ih h

/-! ### the further numbers -/
def otF (c : Int) (L more : List Int) (i : Nat) : Int := if i + 1 < L.length then (more.getD i default % 1073741789 + timesQ c (L.getD (i + 1) default)) % 1073741789 else more.getD i default % 1073741789
def otTo (c : Int) (L more : List Int) (k : Nat) : List Int := (List.range k).map (otF c L more)
theorem otTo_length (c : Int) (L more : List Int) (k : Nat) : (otTo c L more k).length = k := by simp [otTo]
theorem otTo_succ (c : Int) (L more : List Int) (k : Nat) : otTo c L more (k + 1) = otTo c L more k ++ [otF c L more k] := by
  unfold otTo; rw [List.range_succ, List.map_append]; rfl
def otherL (s : Int) (more : List Int) (o : Int) (places : List Int) : List Int :=
  otTo (quotQ (o - s) ((lpT places places.length).getD 0 default)) (lpT places places.length) more more.length
theorem otherL_length (s : Int) (more : List Int) (o : Int) (places : List Int) : (otherL s more o places).length = more.length := otTo_length _ _ _ _
theorem tail_getD (L : List Int) (i : Nat) : L.tail.getD i 0 = L.getD (i + 1) 0 := by cases L <;> simp
theorem otTo_F (c : Int) (L more : List Int) (_hL : L.length ≤ more.length + 1) : (otTo c L more more.length).map toF = addc (toF c) (more.map toF) (L.tail.map toF) := by
  apply List.ext_getElem?
  intro i
  by_cases hi : i < more.length
  · have h1 : (addc (toF c) (more.map toF) (L.tail.map toF))[i]? = some ((addc (toF c) (more.map toF) (L.tail.map toF)).getD i 0) := by
      rw [List.getD_eq_getElem?_getD, List.getElem?_eq_getElem (by rw [addc_length]; simpa using hi)]; rfl
    rw [h1, addc_get _ _ _ _ (by simpa using hi), getD_map0, getD_map0, tail_getD]
    unfold otTo
    rw [List.map_map, List.getElem?_map, List.getElem?_range hi]
    simp only [Option.map_some, Function.comp]
    congr 1
    unfold otF
    by_cases h2 : i + 1 < L.length
    · rw [if_pos h2, toF_mod, toF_add, toF_mod, toF_times, getD_dflt, getD_dflt]
    · rw [if_neg h2, toF_mod, getD_dflt]
      have : L.getD (i + 1) 0 = 0 := by
        rw [List.getD_eq_getElem?_getD, List.getElem?_eq_none (by omega)]; rfl
      rw [this, toF_zero]; grind
  · rw [List.getElem?_eq_none (by simp [otTo_length]; omega), List.getElem?_eq_none (by rw [addc_length]; simp; omega)]
theorem toF_quot (a b : Int) : toF (quotQ a b) = toF a * invF (toF b) := by
  unfold quotQ; rw [toF_times, toF_pw (by omega) (by omega), toF_mod]
/-- the same shares at the places -/
theorem other_law {s o : Int} {more places : List Int} (hl : places.length ≤ more.length) (hp : ∀ i, i < places.length → 1 ≤ places.getD i default ∧ places.getD i default ≤ 24)
    {i : Nat} (hi : i < places.length) : pval o (otherL s more o places) (places.getD i default) = pval s more (places.getD i default) := by
  have hlen := lpT_length places places.length (Nat.le_refl _)
  have hr := lpT_root places.length (Nat.le_refl _) i hi
  have hz := lpT_zero_ne hp places.length (Nat.le_refl _)
  have hF := otTo_F (quotQ (o - s) ((lpT places places.length).getD 0 default)) (lpT places places.length) more (by omega)
  have e1 := toF_pval o (otherL s more o places) (places.getD i default)
  have e2 := toF_pval s more (places.getD i default)
  have b1 := pval_bd o (otherL s more o places) (places.getD i default)
  have b2 := pval_bd s more (places.getD i default)
  have key : toF (pval o (otherL s more o places) (places.getD i default)) = toF (pval s more (places.getD i default)) := by
    rw [e1, e2]
    generalize places.getD i default = x at *
    unfold otherL
    simp only [ev]
    rw [hF, addc_ev _ _ _ _ (by simp [hlen]; exact hl), toF_quot, toF_sub]
    generalize lpT places places.length = L at *
    cases L with
    | nil => simp at hlen
    | cons a T =>
      simp only [List.map_cons, ev, List.tail_cons, List.getD_cons_zero] at *
      have hz' : toF a ≠ 0 := by
        intro h; apply hz; grind
      have hm := mul_invF hz'
      generalize invF (toF a) = u at *
      generalize toF a = A at *
      generalize ev (T.map toF) (toF x) = Y at *
      generalize ev (more.map toF) (toF x) = M at *
      generalize toF x = X at *
      generalize toF o = O at *
      generalize toF s = S at *
      have e3 : (O - S) * u * (A + X * Y) = 0 := by rw [hr]; grind
      have e4 : (O - S) * (A * u) = O - S := by rw [hm]; grind
      grind
  have := toF_iff.1 key
  omega
end Fk
