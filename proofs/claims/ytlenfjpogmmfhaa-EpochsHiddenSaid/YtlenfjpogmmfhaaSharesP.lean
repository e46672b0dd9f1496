import Derived.Test.YtlenfjpogmmfhaaLag
/-! Enough shares give the secret. -/
namespace Fk
theorem ab_fold (s : Sh) (h1 : 1 ≤ s.a) (h2 : s.a ≤ 24) : ∀ (l : List Sh) (c d : Int), (∀ t, t ∈ l → 1 ≤ t.a ∧ t.a ≤ 24) → toF d ≠ 0 →
    toF (l.foldl (stepB s) d) ≠ 0 ∧ toF (l.foldl (stepA s) c) * invF (toF (l.foldl (stepB s) d)) = toF c * invF (toF d) * WF (toF s.a) (l.map fun t => toF t.a)
  | [], c, d, _, hd => ⟨hd, by simp only [List.foldl_nil, List.map_nil, WF]; grind⟩
  | t :: l, c, d, h, hd => by
    obtain ⟨t1, t2⟩ := h t (by simp)
    have hr : ∀ x, x ∈ l → 1 ≤ x.a ∧ x.a ≤ 24 := fun x hx => h x (by simp [hx])
    simp only [List.foldl_cons, List.map_cons, WF]
    by_cases he : t.a = s.a
    · rw [stepA, stepB, if_pos he, if_pos he, if_pos (by rw [he])]
      exact ab_fold s h1 h2 l c d hr hd
    · have hne : toF t.a ≠ toF s.a := fun e => he (by have := toF_iff.1 e; omega)
      have hsub : toF t.a - toF s.a ≠ 0 := fun e => hne (by grind)
      rw [stepA, stepB, if_neg he, if_neg he, if_neg hne]
      have ed : toF (d * ((t.a - s.a) % 1073741789) % 1073741789) = toF d * (toF t.a - toF s.a) := by rw [toF_mod, toF_mul, toF_mod, toF_sub]
      have ec : toF (c * t.a % 1073741789) = toF c * toF t.a := by rw [toF_mod, toF_mul]
      have hd' : toF (d * ((t.a - s.a) % 1073741789) % 1073741789) ≠ 0 := by
        rw [ed]; exact fun e => (mul0F e).elim hd hsub
      obtain ⟨g1, g2⟩ := ab_fold s h1 h2 l (c * t.a % 1073741789) _ hr hd'
      refine ⟨g1, g2.trans ?_⟩
      rw [ec, ed, invF_mul hd hsub]
      generalize invF (toF t.a - toF s.a) = u
      generalize WF (toF s.a) (l.map fun t => toF t.a) = y
      generalize invF (toF d) = z
      generalize toF c = p
      generalize toF t.a = q
      grind
theorem r_fold {l : List Sh} {f : FQ → FQ} (hl : ∀ t, t ∈ l → 1 ≤ t.a ∧ t.a ≤ 24) : ∀ (S : List Sh) (acc : Int), (∀ t, t ∈ S → 1 ≤ t.a ∧ t.a ≤ 24 ∧ toF t.v = f (toF t.a)) →
    toF (S.foldl (stepR l) acc) = toF acc + LF f (l.map fun t => toF t.a) (S.map fun t => toF t.a)
  | [], acc, _ => by simp only [List.foldl_nil, List.map_nil, LF]; grind
  | s :: S, acc, h => by
    obtain ⟨h1, h2, h3⟩ := h s (by simp)
    simp only [List.foldl_cons, List.map_cons, LF]
    rw [r_fold hl S _ (fun t ht => h t (by simp [ht]))]
    obtain ⟨g1, g2⟩ := ab_fold s h1 h2 l s.v 1 hl (by rw [toF_one]; decide)
    have hb := belowQ_bd s l
    have e : toF (stepR l acc s) = toF acc + toF (aboveQ s l) * invF (toF (belowQ s l)) := by
      unfold stepR
      rw [toF_mod, toF_add, toF_mul, toF_pw hb.1 hb.2]
    have e2 : toF (aboveQ s l) * invF (toF (belowQ s l)) = toF s.v * invF (toF 1) * WF (toF s.a) (l.map fun t => toF t.a) := g2
    rw [e, e2, toF_one, invF_one, h3]
    grind
theorem ev_pval (s : Int) (x : Int) : ∀ more : List Int, ev (more.map toF) (toF x) = toF (sumP x more)
  | [] => rfl
  | m :: r => by
    have ih := ev_pval s x r
    simp only [List.map_cons, ev, sumP]
    rw [ih, toF_add, toF_mul]
theorem toF_pval (s : Int) (more : List Int) (x : Int) : toF (pval s more x) = ev (toF s :: more.map toF) (toF x) := by
  rw [pval_sum, toF_mod, toF_add, toF_mul]
  show _ = toF s + toF x * ev (more.map toF) (toF x)
  rw [ev_pval s]
theorem recover_secret {s : Int} {more : List Int} {l : List Sh} (h1 : 1 ≤ s) (h2 : s < 1073741789) (hl : ∀ t, t ∈ l → 1 ≤ t.a ∧ t.a ≤ 24 ∧ t.v = pval s more t.a)
    (hp : l.Pairwise fun x y => x.a ≠ y.a) (hn : more.length < l.length) : recTo l l.length = s := by
  have hN : (l.map fun t => toF t.a).Nodup := by
    rw [List.Nodup, List.pairwise_map]
    refine List.Pairwise.imp_of_mem ?_ hp
    intro a b ha hb hne he
    have h1 := hl a ha
    have h2 := hl b hb
    have := toF_iff.1 he
    exact hne (by omega)
  have hL := lagrange (more.length + 1) (toF s :: more.map toF) (l.map fun t => toF t.a) (by simp) (by simp; omega) (by simp; omega) hN
  have hR := r_fold (l := l) (f := ev (toF s :: more.map toF)) (fun t ht => ⟨(hl t ht).1, (hl t ht).2.1⟩) l 0 (fun t ht => by
    obtain ⟨a, b, c⟩ := hl t ht
    exact ⟨a, b, by rw [c, toF_pval]⟩)
  rw [hL] at hR
  have e0 : ev (toF s :: more.map toF) 0 = toF s := by simp only [ev]; grind
  rw [e0, toF_zero] at hR
  have hb := recTo_bd l l.length
  have e1 : recTo l l.length = l.foldl (stepR l) 0 := by unfold recTo; rw [List.take_length]
  rw [← e1] at hR
  have e2 : toF (recTo l l.length) = toF s := by rw [hR]; grind
  have := toF_iff.1 e2
  omega

/-! ### some of some shares -/
def pkL (B : Nat → Bool) (most : Nat) (turned : Bool) (l : List Sh) : Nat → List Sh
  | 0 => []
  | k + 1 => if B k && decide ((pkL B most turned l k).length < most) then (if turned then l.getD k default :: pkL B most turned l k else pkL B most turned l k ++ [l.getD k default]) else pkL B most turned l k
theorem pk_len (B : Nat → Bool) (most : Nat) (turned : Bool) (l : List Sh) : ∀ k, (pkL B most turned l k).length ≤ k ∧ (pkL B most turned l k).length ≤ most
  | 0 => by simp [pkL]
  | k + 1 => by
    have ih := pk_len B most turned l k
    rw [pkL]
    split
    · rename_i h
      simp at h
      split <;> simp <;> omega
    · omega
theorem pk_mem {B : Nat → Bool} {most : Nat} {turned : Bool} {l : List Sh} {s : Sh} : ∀ k, s ∈ pkL B most turned l k → ∃ i, i < k ∧ s = l.getD i default
  | 0, h => by simp [pkL] at h
  | k + 1, h => by
    rw [pkL] at h
    have ih := pk_mem (B := B) (most := most) (turned := turned) (l := l) (s := s) k
    have up : (∃ i, i < k ∧ s = l.getD i default) → ∃ i, i < k + 1 ∧ s = l.getD i default := fun ⟨i, hi, e⟩ => ⟨i, by omega, e⟩
    split at h
    · split at h
      · rcases List.mem_cons.1 h with h | h
        · exact ⟨k, by omega, h⟩
        · exact up (ih h)
      · rcases List.mem_append.1 h with h | h
        · exact up (ih h)
        · exact ⟨k, by omega, by simpa using h⟩
    · exact up (ih h)
theorem pk_pair {B : Nat → Bool} {most : Nat} {turned : Bool} {l : List Sh} {K : Nat} (hd : ∀ i j, i < K → j < K → (l.getD i default).a = (l.getD j default).a → i = j) :
    ∀ k, k ≤ K → (pkL B most turned l k).Pairwise fun x y => x.a ≠ y.a
  | 0, _ => by simp [pkL]
  | k + 1, hk => by
    have ih := pk_pair (B := B) (most := most) (turned := turned) hd k (by omega)
    have hm : ∀ x, x ∈ pkL B most turned l k → x.a ≠ (l.getD k default).a := fun x hx he => by
      obtain ⟨i, hi, rfl⟩ := pk_mem k hx
      have := hd i k (by omega) (by omega) he
      omega
    rw [pkL]
    split
    · split
      · exact List.pairwise_cons.2 ⟨fun x hx he => hm x hx he.symm, ih⟩
      · exact List.pairwise_append.2 ⟨ih, by simp, fun x hx y hy => by
          obtain rfl : y = l.getD k default := by simpa using hy
          exact hm x hx⟩
    · exact ih
theorem dealTo_get {s : Int} {more : List Int} {n i : Nat} (h : i < n) : (dealTo s more n).getD i default = ⟨(i : Int) + 1, pval s more ((i : Int) + 1)⟩ := by
  unfold dealTo
  rw [List.getD_eq_getElem?_getD, List.getElem?_map, List.getElem?_range h]; rfl
theorem formed_of {l : List Sh} (h0 : 0 < l.length) (h1 : ∀ t, t ∈ l → shOK t) (hp : l.Pairwise fun x y => x.a ≠ y.a) : formedS l := by
  refine ⟨h0, fun i hi => ⟨?_, fun j hj => ?_⟩⟩
  · rw [List.getD_eq_getElem?_getD, List.getElem?_eq_getElem hi]
    exact h1 _ (List.getElem_mem _)
  · rw [List.getD_eq_getElem?_getD, List.getD_eq_getElem?_getD, List.getElem?_eq_getElem hi, List.getElem?_eq_getElem (show j < l.length by omega)]
    exact List.pairwise_iff_getElem.1 hp j i (by omega) hi hj
/-- the law: what is picked of what was dealt gives the secret, if it is more than the further numbers -/
theorem shares_law {s : Int} {more : List Int} {n : Nat} (B : Nat → Bool) (most : Nat) (turned : Bool) (h1 : 1 ≤ s) (h2 : s < 1073741789) (hn : n ≤ 24)
    (hm : more.length < (pkL B most turned (dealTo s more n) n).length) :
    recE (pkL B most turned (dealTo s more n) n) = 0 ∧ recV (pkL B most turned (dealTo s more n) n) = s := by
  have hd : ∀ i j, i < n → j < n → ((dealTo s more n).getD i default).a = ((dealTo s more n).getD j default).a → i = j := fun i j hi hj h => by
    rw [dealTo_get hi, dealTo_get hj] at h
    simp only at h; omega
  have hp := pk_pair (B := B) (most := most) (turned := turned) hd n (Nat.le_refl _)
  have hall : ∀ t, t ∈ pkL B most turned (dealTo s more n) n → 1 ≤ t.a ∧ t.a ≤ 24 ∧ t.v = pval s more t.a := fun t ht => by
    obtain ⟨i, hi, rfl⟩ := pk_mem n ht
    rw [dealTo_get hi]
    exact ⟨by simp only; omega, by simp only; omega, rfl⟩
  have hf := formed_of (by omega) (fun t ht => by
    obtain ⟨a, b, c⟩ := hall t ht
    have := pval_bd s more t.a
    exact ⟨a, b, by rw [c]; exact this.1, by rw [c]; exact this.2⟩) hp
  obtain ⟨e1, e2⟩ := recE_ok hf
  exact ⟨e1, e2.trans (recover_secret h1 h2 hall hp hm)⟩
end Fk
