import Derived.Test.YthckledagggoiaaGreatDoorAs6
set_option linter.unusedSimpArgs false
set_option linter.unusedVariables false
namespace Go.Proofs.YthckledagggoiaaGreatDoor
open Go.RowKit Fk
/-! What the reference computes is what the program computes: standing entries, sorted lists. -/
def repB (a b : En) : Bool := (a.kind == b.kind) && ((a.a == b.a) && ((a.kind == 1 || a.kind == 2) && (decide (b.from_ < a.from_) || ((a.from_ == b.from_) && decide (b.no < a.no)))))
def keyE (x : En) : Int × Int := (x.kind, x.a)
def incE (C : List En) : Prop := C.Pairwise (fun x y => x.no < y.no)
/-- what lastE holds -/
def maxAt (C : List En) (q : Int × Int) : Option En → Prop
  | none => ∀ y, y ∈ C → keyE y ≠ q
  | some m => m ∈ C ∧ keyE m = q ∧ ∀ y, y ∈ C → keyE y = q → y.from_ < m.from_ ∨ (y.from_ = m.from_ ∧ y.no ≤ m.no)
theorem lastE_nil (q : Int × Int) : lastE [] q = none := rfl
theorem lastE_max : ∀ (n : Nat) (C : List En), C.length = n → incE C → ∀ q, maxAt C q (lastE C q) := by
  intro n
  induction n with
  | zero =>
    intro C hl _ q
    obtain rfl : C = [] := List.eq_nil_of_length_eq_zero hl
    rw [lastE_nil]
    intro y hy; simp at hy
  | succ n ih =>
    intro C hl hC q
    obtain ⟨A, y, rfl⟩ : ∃ A y, C = A ++ [y] := by
      refine ⟨C.dropLast, C.getLast (by intro e; rw [e] at hl; simp at hl), (List.dropLast_concat_getLast _).symm⟩
    have hA : A.length = n := by simpa using hl
    have hinc := List.pairwise_append.1 hC
    have hlt : ∀ x, x ∈ A → x.no < y.no := fun x hx => hinc.2.2 x hx y (by simp)
    have hI := ih A hA hinc.1 q
    have hIy := ih A hA hinc.1 (keyE y)
    rw [lastE_snoc]
    unfold stepE
    by_cases ht : takesB (lastE A) y = true
    · rw [if_pos ht]
      by_cases hq : q = keyE y
      · subst hq
        have e : updE (lastE A) (y.kind, y.a) y (keyE y) = some y := if_pos rfl
        rw [e]
        refine ⟨by simp, rfl, fun z hz hzk => ?_⟩
        rcases List.mem_append.1 hz with h | h
        · unfold takesB at ht
          cases hg : lastE A (keyE y) with
          | none => rw [hg] at hIy; exact absurd hzk (hIy z h)
          | some m =>
            rw [hg] at hIy
            obtain ⟨m1, m2, m3⟩ := hIy
            have hg' : lastE A (y.kind, y.a) = some m := hg
            rw [hg'] at ht
            simp only [Option.isSome_some, Bool.not_true, Bool.false_or, Option.getD_some, decide_eq_true_eq] at ht
            have hz1 := hlt z h
            rcases m3 z h hzk with h4 | ⟨h4, h5⟩
            · exact .inl (by omega)
            · by_cases h6 : z.from_ = y.from_
              · exact .inr ⟨h6, by omega⟩
              · exact .inl (by omega)
        · rw [List.mem_singleton] at h; subst h; exact .inr ⟨rfl, Int.le_refl _⟩
      · have e : updE (lastE A) (y.kind, y.a) y q = lastE A q := if_neg hq
        rw [e]
        cases hg : lastE A q with
        | none =>
          rw [hg] at hI
          intro z hz
          rcases List.mem_append.1 hz with h | h
          · exact hI z h
          · rw [List.mem_singleton] at h; subst h; exact fun e => hq e.symm
        | some m =>
          rw [hg] at hI
          obtain ⟨m1, m2, m3⟩ := hI
          refine ⟨List.mem_append_left _ m1, m2, fun z hz hzk => ?_⟩
          rcases List.mem_append.1 hz with h | h
          · exact m3 z h hzk
          · rw [List.mem_singleton] at h; subst h; exact absurd hzk.symm hq
    · rw [if_neg ht]
      unfold takesB at ht
      cases hg : lastE A q with
      | none =>
        rw [hg] at hI
        intro z hz
        rcases List.mem_append.1 hz with h | h
        · exact hI z h
        · rw [List.mem_singleton] at h; subst h
          intro e
          have hg' : lastE A (z.kind, z.a) = none := by rw [← hg, ← e]; rfl
          rw [hg'] at ht; simp at ht
      | some m =>
        rw [hg] at hI
        obtain ⟨m1, m2, m3⟩ := hI
        refine ⟨List.mem_append_left _ m1, m2, fun z hz hzk => ?_⟩
        rcases List.mem_append.1 hz with h | h
        · exact m3 z h hzk
        · rw [List.mem_singleton] at h; subst h
          have hg' : lastE A (z.kind, z.a) = some m := by rw [← hg, ← hzk]; rfl
          rw [hg'] at ht
          simp at ht
          exact .inl (by omega)
def rstandL (l : List En) (day time : Int) : List En := l.filter fun x => cntB day time x && !(l.any fun y => cntB day time y && repB y x)
theorem okTo_inc : ∀ (l : List En) (last : Int), okTo last l = true → incE l ∧ ∀ x, x ∈ l → last < x.no
  | [], _, _ => ⟨List.Pairwise.nil, fun x hx => by simp at hx⟩
  | x :: r, last, h => by
    unfold okTo at h
    simp only [Bool.and_eq_true, decide_eq_true_eq] at h
    obtain ⟨_, h2, h3⟩ := h
    obtain ⟨i1, i2⟩ := okTo_inc r x.no h3
    refine ⟨List.Pairwise.cons i2 i1, fun y hy => ?_⟩
    rcases List.mem_cons.1 hy with e | e
    · rw [e]; exact h2
    · have := i2 y e; omega
theorem chkE_inc {l : List En} (h : chkE l = 0) : incE l := by
  unfold chkE at h
  by_cases h1 : 1024 < l.length
  · rw [if_pos h1] at h; simp at h
  · rw [if_neg h1] at h
    by_cases h2 : okL l = true
    · exact (okTo_inc l _ h2).1
    · rw [if_neg h2] at h; simp at h
theorem inc_inj {l : List En} (h : incE l) {x y : En} (hx : x ∈ l) (hy : y ∈ l) (hn : x.no = y.no) : x = y := by
  induction l with
  | nil => simp at hx
  | cons a r ih =>
    have h1 := List.pairwise_cons.1 h
    rcases List.mem_cons.1 hx with e | e
    · rcases List.mem_cons.1 hy with f | f
      · rw [e, f]
      · have := h1.1 y f; rw [e] at hn; omega
    · rcases List.mem_cons.1 hy with f | f
      · have := h1.1 x e; rw [f] at hn; omega
      · exact ih h1.2 e f
theorem repB_iff (y x : En) : repB y x = true ↔ keyE y = keyE x ∧ (y.kind = 1 ∨ y.kind = 2) ∧ (x.from_ < y.from_ ∨ (y.from_ = x.from_ ∧ x.no < y.no)) := by
  unfold repB keyE
  simp only [Bool.and_eq_true, Bool.or_eq_true, beq_iff_eq, decide_eq_true_eq, Prod.mk.injEq, and_assoc]
theorem keep_iff {C : List En} (h : incE C) {x : En} (hx : x ∈ C) : keepB (lastE C) x = !(C.any fun y => repB y x) := by
  have hm := lastE_max C.length C rfl h (keyE x)
  rw [Bool.eq_iff_iff, Bool.not_eq_true', List.any_eq_false]
  unfold keepB
  rw [Bool.or_eq_true, Bool.not_eq_true', decide_eq_true_eq]
  constructor
  · intro hk y hy hr
    obtain ⟨r1, r2, r3⟩ := (repB_iff y x).1 hr
    have ho : oneB x = true := by
      have hkk : y.kind = x.kind := congrArg Prod.fst r1
      unfold oneB; rw [← hkk]
      rcases r2 with e | e <;> rw [e] <;> rfl
    rcases hk with hk | hk
    · rw [ho] at hk; cases hk
    · cases hg : lastE C (keyE x) with
      | none => rw [hg] at hm; exact hm x hx rfl
      | some m =>
        rw [hg] at hm
        have hg' : lastE C (x.kind, x.a) = some m := hg
        rw [hg', Option.getD_some] at hk
        subst hk
        rcases hm.2.2 y hy r1 with h4 | ⟨h4, h5⟩
        · rcases r3 with h6 | ⟨h6, h7⟩ <;> omega
        · rcases r3 with h6 | ⟨h6, h7⟩ <;> omega
  · intro hn
    by_cases ho : oneB x = true
    · refine .inr ?_
      cases hg : lastE C (keyE x) with
      | none => rw [hg] at hm; exact absurd rfl (hm x hx)
      | some m =>
        rw [hg] at hm
        obtain ⟨m1, m2, m3⟩ := hm
        have hg' : lastE C (x.kind, x.a) = some m := hg
        rw [hg', Option.getD_some]
        have hmk : m.kind = 1 ∨ m.kind = 2 := by
          have hkk : m.kind = x.kind := congrArg Prod.fst m2
          unfold oneB at ho
          rw [Bool.or_eq_true, beq_iff_eq, beq_iff_eq] at ho
          rw [hkk]; exact ho
        have hr : ¬ (x.from_ < m.from_ ∨ (m.from_ = x.from_ ∧ x.no < m.no)) := fun h5 => hn m m1 ((repB_iff m x).2 ⟨m2, hmk, h5⟩)
        rcases m3 x hx rfl with h6 | ⟨h6, h7⟩
        · exact absurd (.inl h6) hr
        · exact inc_inj h m1 hx (by
            by_cases h8 : x.no < m.no
            · exact absurd (.inr ⟨h6.symm, h8⟩) hr
            · omega)
    · exact .inl (by simpa using ho)
theorem rstand_eq {l : List En} (h : chkE l = 0) (day time : Int) : rstandL l day time = standL l day time := by
  have hi := chkE_inc h
  have hC : incE (cntL day time l) := List.Pairwise.filter _ hi
  unfold rstandL standL
  have e : (cntL day time l).filter (keepB (lastE (cntL day time l))) = l.filter fun x => cntB day time x && keepB (lastE (cntL day time l)) x := by
    unfold cntL
    rw [List.filter_filter]
    refine List.filter_congr fun x _ => ?_
    rw [Bool.and_comm]
  rw [e]
  refine List.filter_congr fun x hx => ?_
  cases hc : cntB day time x with
  | false => rfl
  | true =>
    rw [Bool.true_and, Bool.true_and, keep_iff hC (by unfold cntL; exact List.mem_filter.2 ⟨hx, hc⟩)]
    congr 1
    unfold cntL
    rw [List.any_filter]
/-! sorted lists -/
theorem inc_eq : ∀ {a b : List Int}, a.Pairwise (fun x y => x < y) → b.Pairwise (fun x y => x < y) → (∀ z, z ∈ a ↔ z ∈ b) → a = b
  | [], [], _, _, _ => rfl
  | [], y :: b, _, _, h => absurd ((h y).2 (by simp)) (by simp)
  | x :: a, [], _, _, h => absurd ((h x).1 (by simp)) (by simp)
  | x :: a, y :: b, ha, hb, h => by
    have h1 := List.pairwise_cons.1 ha
    have h2 := List.pairwise_cons.1 hb
    have hxy : x = y := by
      rcases List.mem_cons.1 ((h x).1 (by simp)) with e | e
      · exact e
      · rcases List.mem_cons.1 ((h y).2 (by simp)) with f | f
        · exact f.symm
        · have := h1.1 y f; have := h2.1 x e; omega
    subst hxy
    have hab : a = b := inc_eq h1.2 h2.2 fun z => by
      constructor
      · intro hz
        rcases List.mem_cons.1 ((h z).1 (List.mem_cons_of_mem _ hz)) with e | e
        · have := h1.1 z hz; omega
        · exact e
      · intro hz
        rcases List.mem_cons.1 ((h z).2 (List.mem_cons_of_mem _ hz)) with e | e
        · have := h2.1 z hz; omega
        · exact e
    rw [hab]
def lowL (l : List Int) (n : Int) : List Int := l.filter fun x => decide (x < n)
def highL (l : List Int) (n : Int) : List Int := l.filter fun x => !decide (x < n)
def putL (l : List Int) (n : Int) : List Int := if n ∈ l then l else lowL l n ++ [n] ++ highL l n
theorem putL_mem (l : List Int) (n z : Int) : z ∈ putL l n ↔ z ∈ l ∨ z = n := by
  unfold putL
  by_cases h : n ∈ l
  · rw [if_pos h]
    exact ⟨.inl, fun h2 => h2.elim id (fun e => e ▸ h)⟩
  · rw [if_neg h]
    unfold lowL highL
    simp only [List.mem_append, List.mem_filter, List.mem_singleton, decide_eq_true_eq, Bool.not_eq_true', decide_eq_false_iff_not]
    constructor
    · rintro ((⟨h1, _⟩ | h1) | ⟨h1, _⟩)
      · exact .inl h1
      · exact .inr h1
      · exact .inl h1
    · rintro (h1 | h1)
      · by_cases h2 : z < n
        · exact .inl (.inl ⟨h1, h2⟩)
        · exact .inr ⟨h1, h2⟩
      · exact .inl (.inr h1)
theorem putL_inc {l : List Int} (h : l.Pairwise (fun x y => x < y)) (n : Int) : (putL l n).Pairwise (fun x y => x < y) := by
  unfold putL
  by_cases hn : n ∈ l
  · rw [if_pos hn]; exact h
  · rw [if_neg hn]
    unfold lowL highL
    rw [List.pairwise_append]
    refine ⟨?_, List.Pairwise.filter _ h, ?_⟩
    · rw [List.pairwise_append]
      refine ⟨List.Pairwise.filter _ h, by simp, fun x hx y hy => ?_⟩
      rw [List.mem_singleton] at hy; subst hy
      simpa using (List.mem_filter.1 hx).2
    · intro x hx y hy
      have hy2 := List.mem_filter.1 hy
      have h3 : ¬ y < n := by simpa using hy2.2
      have h4 : y ≠ n := fun e => hn (e ▸ hy2.1)
      rcases List.mem_append.1 hx with h5 | h5
      · have : x < n := by simpa using (List.mem_filter.1 h5).2
        omega
      · rw [List.mem_singleton] at h5; omega
theorem sortU_snoc (L : List Int) (a : Int) : sortU (L ++ [a]) = putL (sortU L) a :=
  inc_eq (sortU_lt _) (putL_inc (sortU_lt L) a) fun z => by
    rw [sortU_mem, putL_mem, sortU_mem, List.mem_append, List.mem_singleton]
end Go.Proofs.YthckledagggoiaaGreatDoor

set_option linter.unusedSimpArgs false
set_option linter.unusedVariables false
namespace Go.Proofs.YthckledagggoiaaGreatDoor
open Go.RowKit Fk
/-! The first entry of a kind about a person. -/
def findP (X : List En) (k a : Int) (i : Nat) : Bool := decide ((X.getD i default).kind = k ∧ (X.getD i default).a = a)
def findN (X : List En) (k a : Int) : Option Nat := (List.range X.length).find? (findP X k a)
def optZ : Option Nat → Int
  | some i => i
  | none => -1
theorem findN_some {X : List En} {k a : Int} {i : Nat} (h : i < X.length) (hi : findP X k a i = true) (hb : ∀ q, q < i → findP X k a q = false) : findN X k a = some i := by
  unfold findN
  rw [List.find?_range_eq_some]
  exact ⟨hi, by simpa using h, fun j hj => by rw [hb j hj]; rfl⟩
theorem findN_none {X : List En} {k a : Int} (hb : ∀ q, q < X.length → findP X k a q = false) : findN X k a = none := by
  unfold findN
  rw [List.find?_range_eq_none]
  exact fun j hj => by rw [hb j hj]; rfl
theorem findN_is {X : List En} {k a : Int} {i : Nat} (h : findN X k a = some i) : i < X.length ∧ (X.getD i default).kind = k ∧ (X.getD i default).a = a := by
  unfold findN at h
  rw [List.find?_range_eq_some] at h
  obtain ⟨h1, h2, _⟩ := h
  unfold findP at h1
  rw [decide_eq_true_eq] at h1
  exact ⟨by simpa using h2, h1.1, h1.2⟩
theorem findN_no {X : List En} {k a : Int} (h : findN X k a = none) : ∀ x, x ∈ X → ¬ (x.kind = k ∧ x.a = a) := by
  unfold findN at h
  rw [List.find?_range_eq_none] at h
  intro x hx
  obtain ⟨i, hi, rfl⟩ := List.getElem_of_mem hx
  have := h i hi
  unfold findP at this
  rw [List.getD_eq_getElem?_getD, List.getElem?_eq_getElem hi, Bool.not_eq_true', decide_eq_false_iff_not] at this
  exact this
theorem deskL_is : ∀ (n : Nat) (X : List En), X.length = n → ∀ {k a : Int}, (∀ m, deskL X k a = some m → m ∈ X ∧ m.kind = k ∧ m.a = a) ∧ (deskL X k a = none → ∀ x, x ∈ X → ¬ (x.kind = k ∧ x.a = a)) := by
  intro n
  induction n with
  | zero =>
    intro X hl k a
    obtain rfl : X = [] := List.eq_nil_of_length_eq_zero hl
    exact ⟨fun m h => (by cases h), fun _ x hx => (by simp at hx)⟩
  | succ n ih =>
    intro X hl k a
    obtain ⟨A, y, rfl⟩ : ∃ A y, X = A ++ [y] := ⟨X.dropLast, X.getLast (by intro e; rw [e] at hl; simp at hl), (List.dropLast_concat_getLast _).symm⟩
    have hA : A.length = n := by simpa using hl
    obtain ⟨i1, i2⟩ := ih A hA (k := k) (a := a)
    rw [deskL_snoc]
    by_cases hc : k = y.kind ∧ a = y.a
    · have e : upd2 (deskL A) y.kind y.a y k a = some y := if_pos hc
      rw [e]
      exact ⟨fun m h => (by cases h; exact ⟨by simp, hc.1.symm, hc.2.symm⟩), fun h => (by cases h)⟩
    · have e : upd2 (deskL A) y.kind y.a y k a = deskL A k a := if_neg hc
      rw [e]
      refine ⟨fun m h => ?_, fun h x hx => ?_⟩
      · obtain ⟨h1, h2⟩ := i1 m h
        exact ⟨List.mem_append_left _ h1, h2⟩
      · rcases List.mem_append.1 hx with h1 | h1
        · exact i2 h x h1
        · rw [List.mem_singleton] at h1; subst h1
          exact fun h3 => hc ⟨h3.1.symm, h3.2.symm⟩
theorem desk_isSome (X : List En) (k a : Int) : (deskL X k a).isSome = (findN X k a).isSome := by
  obtain ⟨i1, i2⟩ := deskL_is X.length X rfl (k := k) (a := a)
  cases hf : findN X k a with
  | none =>
    cases hd : deskL X k a with
    | none => rfl
    | some m => obtain ⟨h1, h2, h3⟩ := i1 m hd; exact absurd ⟨h2, h3⟩ (findN_no hf m h1)
  | some i =>
    obtain ⟨h1, h2, h3⟩ := findN_is hf
    cases hd : deskL X k a with
    | none => exact absurd ⟨h2, h3⟩ (i2 hd _ (by rw [List.getD_eq_getElem?_getD, List.getElem?_eq_getElem h1]; exact List.getElem_mem h1))
    | some m => rfl
theorem stand_uniq {l : List En} {day time : Int} {x y : En} (hx : x ∈ standL l day time) (hy : y ∈ standL l day time) (hk : x.kind = 1 ∨ x.kind = 2) (h1 : x.kind = y.kind) (h2 : x.a = y.a) : x = y := by
  unfold standL at hx hy
  have kx := (List.mem_filter.1 hx).2
  have ky := (List.mem_filter.1 hy).2
  have ox : oneB x = true := by unfold oneB; rcases hk with h | h <;> rw [h] <;> rfl
  have oy : oneB y = true := by unfold oneB; rw [← h1]; rcases hk with h | h <;> rw [h] <;> rfl
  unfold keepB at kx ky
  rw [ox, Bool.not_true, Bool.false_or, decide_eq_true_eq] at kx
  rw [oy, Bool.not_true, Bool.false_or, decide_eq_true_eq, ← h1, ← h2] at ky
  exact kx.symm.trans ky
theorem desk_find {l : List En} {day time k a : Int} (hk : k = 1 ∨ k = 2) {i : Nat} (h : findN (standX l day time) k a = some i) : deskL (standX l day time) k a = some ((standX l day time).getD i default) := by
  obtain ⟨h1, h2, h3⟩ := findN_is h
  obtain ⟨i1, i2⟩ := deskL_is (standX l day time).length (standX l day time) rfl (k := k) (a := a)
  have hmem : (standX l day time).getD i default ∈ standX l day time := by rw [List.getD_eq_getElem?_getD, List.getElem?_eq_getElem h1]; exact List.getElem_mem h1
  cases hd : deskL (standX l day time) k a with
  | none => exact absurd ⟨h2, h3⟩ (i2 hd _ hmem)
  | some m =>
    obtain ⟨m1, m2, m3⟩ := i1 m hd
    unfold standX at m1 hmem ⊢
    by_cases hs : stE l day time = 0
    · rw [if_pos hs] at m1
      have hmem' : (standL l day time).getD i default ∈ standL l day time := by
        have := hmem; rw [if_pos hs] at this; exact this
      rw [if_pos hs]
      have h2' : ((standL l day time).getD i default).kind = k := by have := h2; unfold standX at this; rw [if_pos hs] at this; exact this
      have h3' : ((standL l day time).getD i default).a = a := by have := h3; unfold standX at this; rw [if_pos hs] at this; exact this
      congr 1
      exact stand_uniq m1 hmem' (by rw [m2]; exact hk) (by rw [m2, h2']) (by rw [m3, h3'])
    · rw [if_neg hs] at m1; simp at m1
end Go.Proofs.YthckledagggoiaaGreatDoor
