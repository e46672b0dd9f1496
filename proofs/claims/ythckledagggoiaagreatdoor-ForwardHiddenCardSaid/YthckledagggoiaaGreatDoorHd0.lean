import Derived.Test.YthckledagggoiaaGreatDoorFp0
set_option linter.unusedSimpArgs false
set_option linter.unusedVariables false
namespace Go.Proofs.YthckledagggoiaaGreatDoor
open Go.RowKit Go.MapKept Go.Shelf Fk Sha
/-! An entry about somebody who is not asked changes nothing: in plain words. -/
def addL (l : List En) (x : En) : List En := l.filter (fun y => decide (y.no < x.no)) ++ [x] ++ l.filter (fun y => !decide (y.no < x.no))
def keyB (k a : Int) (y : En) : Bool := (y.kind == k) && (y.a == a)
/-! the registry stays right -/
theorem okTo_iff : ∀ (l : List En) (last : Int), okTo last l = true ↔ (∀ y ∈ l, validB y = true) ∧ List.Pairwise (· < ·) (last :: l.map (·.no))
  | [], last => by simp [okTo]
  | y :: l, last => by
    unfold okTo
    rw [Bool.and_eq_true, Bool.and_eq_true, okTo_iff l y.no, decide_eq_true_eq]
    simp only [List.map_cons, List.pairwise_cons, List.mem_cons, forall_eq_or_imp, List.mem_map, forall_exists_index, and_imp, forall_apply_eq_imp_iff₂]
    constructor
    · rintro ⟨h1, h2, h3, h4, h5⟩
      exact ⟨⟨h1, h3⟩, ⟨h2, fun z hz => Int.lt_trans h2 (h4 z hz)⟩, h4, h5⟩
    · rintro ⟨⟨h1, h3⟩, ⟨h2, _⟩, h4, h5⟩
      exact ⟨h1, h2, h3, h4, h5⟩
theorem valid_no {y : En} (h : validB y = true) : 0 ≤ y.no := by
  unfold validB idB at h
  simp only [Bool.and_eq_true, decide_eq_true_eq] at h
  exact h.2.1.1
theorem okL_iff (l : List En) : okL l = true ↔ (∀ y ∈ l, validB y = true) ∧ List.Pairwise (· < ·) (l.map (·.no)) := by
  unfold okL
  rw [okTo_iff, List.pairwise_cons]
  constructor
  · rintro ⟨h1, _, h2⟩; exact ⟨h1, h2⟩
  · rintro ⟨h1, h2⟩
    refine ⟨h1, fun z hz => ?_, h2⟩
    obtain ⟨y, hy, rfl⟩ := List.mem_map.1 hz
    have := valid_no (h1 y hy)
    omega
theorem mem_addL {l : List En} {x y : En} : y ∈ addL l x ↔ y = x ∨ y ∈ l := by
  unfold addL
  rw [List.mem_append, List.mem_append, List.mem_singleton, List.mem_filter, List.mem_filter]
  constructor
  · rintro ((h | h) | h)
    · exact .inr h.1
    · exact .inl h
    · exact .inr h.1
  · rintro (h | h)
    · exact .inl (.inr h)
    · by_cases hc : y.no < x.no
      · exact .inl (.inl ⟨h, by simpa using hc⟩)
      · exact .inr ⟨h, by simpa using hc⟩
theorem pair_sub {l m : List En} (h : List.Pairwise (· < ·) (l.map (·.no))) (hs : List.Sublist m l) : List.Pairwise (· < ·) (m.map (·.no)) := h.sublist (hs.map _)
theorem okL_add {l : List En} {x : En} (h : okL l = true) (hx : validB x = true) (hn : ∀ y ∈ l, y.no ≠ x.no) : okL (addL l x) = true := by
  rw [okL_iff] at h ⊢
  refine ⟨fun y hy => ?_, ?_⟩
  · rcases mem_addL.1 hy with rfl | hy
    · exact hx
    · exact h.1 y hy
  · unfold addL
    rw [List.map_append, List.map_append, List.pairwise_append, List.pairwise_append]
    have key1 : ∀ z ∈ (l.filter (fun y => decide (y.no < x.no))).map (·.no), z < x.no := fun z hz => by
      obtain ⟨y, hy, rfl⟩ := List.mem_map.1 hz
      simpa using (List.mem_filter.1 hy).2
    have key2 : ∀ z ∈ (l.filter (fun y => !decide (y.no < x.no))).map (·.no), x.no < z := fun z hz => by
      obtain ⟨y, hy, rfl⟩ := List.mem_map.1 hz
      have h1 := (List.mem_filter.1 hy).2
      have h2 := hn y (List.mem_filter.1 hy).1
      simp only [Bool.not_eq_true', decide_eq_false_iff_not] at h1
      omega
    refine ⟨⟨pair_sub h.2 List.filter_sublist, by simp, fun a ha b hb => ?_⟩, pair_sub h.2 List.filter_sublist, fun a ha b hb => ?_⟩
    · simp only [List.map_cons, List.map_nil, List.mem_singleton] at hb
      rw [hb]; exact key1 a ha
    · rcases List.mem_append.1 ha with ha | ha
      · exact Int.lt_trans (key1 a ha) (key2 b hb)
      · simp only [List.map_cons, List.map_nil, List.mem_singleton] at ha
        rw [ha]; exact key2 b hb
theorem addL_len (l : List En) (x : En) : (addL l x).length = l.length + 1 := by
  unfold addL
  rw [List.length_append, List.length_append, List.length_singleton]
  have : ∀ l : List En, (l.filter (fun y => decide (y.no < x.no))).length + (l.filter (fun y => !decide (y.no < x.no))).length = l.length := by
    intro l
    induction l with
    | nil => rfl
    | cons y l ih =>
      by_cases hc : y.no < x.no
      · simp only [List.filter_cons, hc, decide_true, Bool.not_true, if_true, Bool.false_eq_true, if_false, List.length_cons]; omega
      · simp only [List.filter_cons, hc, decide_false, Bool.not_false, if_true, Bool.false_eq_true, if_false, List.length_cons]; omega
  have := this l
  omega
theorem chkE_add {l : List En} {x : En} (h : chkE l = 0) (hl : l.length ≤ 23) (hx : validB x = true) (hn : ∀ y ∈ l, y.no ≠ x.no) : chkE (addL l x) = 0 := by
  have ho : okL l = true := by
    unfold chkE at h
    rw [if_neg (by omega)] at h
    split at h
    · assumption
    · cases h
  unfold chkE
  rw [if_neg (by rw [addL_len]; omega), if_pos (okL_add ho hx hn)]
theorem stE_add {l : List En} {x : En} {day time : Int} (h : stE l day time = 0) (hl : l.length ≤ 23) (hx : validB x = true) (hn : ∀ y ∈ l, y.no ≠ x.no) : stE (addL l x) day time = 0 := by
  have hc := stE_chk h
  unfold stE at h ⊢
  rw [if_pos hc] at h
  rw [if_pos (chkE_add hc hl hx hn)]
  exact h
/-! what the registry says of the others stays -/
theorem filter_key {l : List En} {x : En} {k a : Int} (h : List.Pairwise (· < ·) (l.map (·.no))) (hk : keyB k a x = false) : (addL l x).filter (keyB k a) = l.filter (keyB k a) := by
  unfold addL
  rw [List.filter_append, List.filter_append, List.filter_cons, hk]
  simp only [Bool.false_eq_true, if_false, List.filter_nil, List.append_nil]
  rw [← List.filter_append]
  congr 1
  induction l with
  | nil => rfl
  | cons y l ih =>
    rw [List.map_cons, List.pairwise_cons] at h
    by_cases hc : y.no < x.no
    · simp only [List.filter_cons, hc, decide_true, Bool.not_true, if_true, Bool.false_eq_true, if_false, List.cons_append, ih h.2]
    · have hall : ∀ z ∈ l, ¬ z.no < x.no := fun z hz => by
        have := h.1 z.no (List.mem_map_of_mem hz)
        omega
      have e1 : l.filter (fun y => decide (y.no < x.no)) = [] := by
        rw [List.filter_eq_nil_iff]; intro z hz; simpa using hall z hz
      have e2 : l.filter (fun y => !decide (y.no < x.no)) = l := by
        rw [List.filter_eq_self]; intro z hz; simpa using hall z hz
      simp only [List.filter_cons, hc, decide_false, Bool.not_false, if_true, Bool.false_eq_true, if_false, e1, e2, List.nil_append]
def step1 (o : Option En) (y : En) : Option En := if (!o.isSome || decide ((o.getD zeroE).from_ ≤ y.from_)) = true then some y else o
theorem lastE_key (k a : Int) : ∀ (L : List En) (g : Int × Int → Option En), L.foldl stepE g (k, a) = (L.filter (keyB k a)).foldl step1 (g (k, a))
  | [], g => rfl
  | y :: L, g => by
    rw [List.foldl_cons, lastE_key k a L]
    by_cases hk : keyB k a y = true
    · have e : (y.kind, y.a) = (k, a) := by unfold keyB at hk; simp at hk; rw [hk.1, hk.2]
      rw [List.filter_cons, if_pos hk, List.foldl_cons]
      congr 1
      unfold stepE takesB step1
      rw [e]
      split
      · unfold updE; rw [if_pos rfl]
      · rfl
    · rw [List.filter_cons, if_neg hk]
      congr 1
      unfold stepE
      split
      · unfold updE
        rw [if_neg]
        intro e
        apply hk
        unfold keyB
        rw [Prod.mk.injEq] at e
        simp [e.1, e.2]
      · rfl
theorem deskL_key (k a : Int) : ∀ (X : List En) (D : Int → Int → Option En), X.foldl (fun D y => upd2 D y.kind y.a y) D k a = (X.filter (keyB k a)).foldl (fun _ y => some y) (D k a)
  | [], D => rfl
  | y :: X, D => by
    rw [List.foldl_cons, deskL_key k a X]
    by_cases hk : keyB k a y = true
    · rw [List.filter_cons, if_pos hk, List.foldl_cons]
      congr 1
      unfold upd2
      unfold keyB at hk
      simp at hk
      rw [if_pos ⟨hk.1.symm, hk.2.symm⟩]
    · rw [List.filter_cons, if_neg hk]
      congr 1
      unfold upd2
      rw [if_neg]
      rintro ⟨e1, e2⟩
      apply hk
      unfold keyB
      simp [e1, e2]
theorem filter_comm' (p q : En → Bool) (l : List En) : (l.filter p).filter q = (l.filter q).filter p := by
  rw [List.filter_filter, List.filter_filter]
  congr 1
  funext y
  exact Bool.and_comm _ _
theorem stand_key {l m : List En} {day time k a : Int} (h : m.filter (keyB k a) = l.filter (keyB k a)) : (standL m day time).filter (keyB k a) = (standL l day time).filter (keyB k a) := by
  have hc : (cntL day time m).filter (keyB k a) = (cntL day time l).filter (keyB k a) := by
    unfold cntL
    rw [filter_comm', h, filter_comm']
  have hg : lastE (cntL day time m) (k, a) = lastE (cntL day time l) (k, a) := by
    unfold lastE
    rw [lastE_key, lastE_key, hc]
  unfold standL
  rw [filter_comm', hc, filter_comm' (keepB (lastE (cntL day time l)))]
  apply List.filter_congr
  intro y hy
  have hk := (List.mem_filter.1 hy).2
  have e : (y.kind, y.a) = (k, a) := by unfold keyB at hk; simp at hk; rw [hk.1, hk.2]
  unfold keepB
  rw [e, hg]
theorem desk_same {l m : List En} {day time k a : Int} (h : m.filter (keyB k a) = l.filter (keyB k a)) (h1 : stE l day time = 0) (h2 : stE m day time = 0) : deskL (standX m day time) k a = deskL (standX l day time) k a := by
  unfold standX
  rw [if_pos h1, if_pos h2]
  unfold deskL
  rw [deskL_key, deskL_key, stand_key h]
/-! the same people are asked -/
theorem chain_congr {D D' : Int → Option En} {p : Int} {met : List Int} {r : List (Int × Bool)} (h : Chain D p met r) : (∀ q ∈ r, D' q.1 = D q.1) → Chain D' p met r := by
  induction h with
  | @stop p met h1 => exact fun hq => .stop ((hq _ List.mem_cons_self).trans h1)
  | @circle p met x h1 h2 => exact fun hq => .circle ((hq _ List.mem_cons_self).trans h1) h2
  | @step p met x r h1 h2 _ ih => exact fun hq => .step ((hq _ List.mem_cons_self).trans h1) h2 (ih fun q hq' => hq q (List.mem_cons_of_mem _ hq'))
theorem hidden_where {l : List En} {x : En} {p day time : Int} {r : List (Int × Bool)} (ho : openE l p day time = 0) (hl : l.length ≤ 23) (hx : validB x = true) (hn : ∀ y ∈ l, y.no ≠ x.no)
    (hr : Chain (deskL (standX l day time) 2) p [p] r) (hq : ∀ q ∈ r, q.1 ≠ x.a) : openE (addL l x) p day time = 0 ∧ whereH (addL l x) p day time = whereH l p day time := by
  obtain ⟨hs, hp⟩ := openE_is ho
  have hs2 := stE_add hs hl hx hn
  have ho2 : openE (addL l x) p day time = 0 := by
    unfold openE
    rw [if_pos hs2, if_pos (by unfold idB; simp only [Bool.and_eq_true, decide_eq_true_eq]; exact hp)]
  have hpw : List.Pairwise (· < ·) (l.map (·.no)) := by
    have hc := stE_chk hs
    unfold chkE at hc
    rw [if_neg (by omega)] at hc
    split at hc
    · rename_i h; exact ((okL_iff l).1 h).2
    · cases hc
  have hd : ∀ k a, a ≠ x.a → deskL (standX (addL l x) day time) k a = deskL (standX l day time) k a := fun k a ha =>
    desk_same (filter_key hpw (by unfold keyB; rw [Bool.and_eq_false_iff]; right; simpa using fun e => ha e.symm)) hs hs2
  obtain ⟨r1, c1, e1⟩ := chain_desk (standX l day time) p
  obtain ⟨r2, c2, e2⟩ := chain_desk (standX (addL l x) day time) p
  obtain rfl := chain_one hr c1
  have hc := chain_congr (D' := deskL (standX (addL l x) day time) 2) hr (fun q hq' => hd 2 q.1 (hq q hq'))
  obtain rfl := chain_one hc c2
  have he : endL (standX (addL l x) day time) p = endL (standX l day time) p := Option.some.inj (e2.symm.trans e1)
  have hm : (endL (standX l day time) p).1 ≠ x.a := hq _ (List.mem_of_getLast? e1)
  refine ⟨ho2, ?_⟩
  unfold whereH
  rw [if_pos ho, if_pos ho2, he]
  unfold whereD
  rw [hd 3 _ hm, hd 4 _ hm, hd 1 _ hm]
theorem hidden_law {l : List En} {x : En} {t : List Lx} {n s people office al day time rn : Int} {keys : List Int} {r : List (Int × Bool)} (ho : openE l (findV s people office al).1 day time = 0) (hl : l.length ≤ 23) (hx : validB x = true) (hn : ∀ y ∈ l, y.no ≠ x.no)
    (hr : Chain (deskL (standX l day time) 2) (findV s people office al).1 [(findV s people office al).1] r) (hq : ∀ q ∈ r, q.1 ≠ x.a) :
    nextR t n keys s (addL l x) people office al day time rn = nextR t n keys s l people office al day time rn := by
  obtain ⟨h1, h2⟩ := hidden_where ho hl hx hn hr hq
  unfold nextR
  rw [h1, h2, ho]
end Go.Proofs.YthckledagggoiaaGreatDoor
