import Derived.Test.YthckledagggoiaaGreatDoorZSc1
import Derived.Test.YthckledagggoiaaGreatDoorZHd0
set_option linter.unusedSimpArgs false
set_option linter.unusedVariables false
namespace Go.Proofs.YthckledagggoiaaGreatDoor
open Go.RowKit Go.MapKept Go.Shelf Fk Sha
/-! ForwardReads: what all secrets of a line read; in plain words. -/
theorem mul_inS {a b : Int} (ha : vld a = true) (hb : vld b = true) : a * b % 2147483579 = mulC a b := by
  unfold mulC; rw [ha, hb]; simp only [Bool.and_self, if_true]
theorem mul_oneS {a : Int} (ha : vld a = true) : mulC a 1 = a := by
  have h := pow_0 ha
  have h1 := pow_1 ha
  have := pow_add' ha 1 0
  rw [h, h1, Int.add_zero, h1] at this
  exact this
theorem one_mulS {a : Int} (ha : vld a = true) : mulC 1 a = a := by
  have h := pow_0 ha
  have h1 := pow_1 ha
  have := pow_add' ha 0 1
  rw [h, h1, Int.zero_add, h1] at this
  exact this
/-- one cipher: element e, sealed with the number t for secrets that add up to S -/
def cS (S e t : Int) : Ci := ⟨powC 4 t, mulC e (powC 4 (S * t))⟩
/-- a letter for secrets that add up to S -/
def LT (S : Int) (e t : Tr) : Se := ⟨cS S e.p t.p, cS S e.q t.q, cS S e.r t.r⟩
def vld3 (e : Tr) : Prop := vld e.p = true ∧ vld e.q = true ∧ vld e.r = true
theorem okC_mk {a b : Int} (ha : vld a = true) (hb : vld b = true) : okC ⟨a, b⟩ = true := okC_iff.2 ⟨ha, hb⟩
theorem chS_ok {s : Se} (h : okS s = true) : chS s = 0 := by unfold chS; rw [h, if_pos rfl]
theorem cS_ok {S e : Int} (he : vld e = true) (t : Int) : okC (cS S e t) = true := by
  have h1 := vld_powC vld_4 t
  have h2 := vld_mul he (vld_powC vld_4 (S * t))
  unfold cS
  exact okC_mk h1 h2
theorem lt_ok {S : Int} {e : Tr} (he : vld3 e) (t : Tr) : okS (LT S e t) = true := okS_iff.2 ⟨cS_ok he.1 _, cS_ok he.2.1 _, cS_ok he.2.2 _⟩
theorem cS_strip {S e : Int} (he : vld e = true) (n t : Int) (i : Nat) : stripC n i (cS S e t) = cS (S - n) e t := by
  have h4 := vld_4
  unfold stripC cS
  simp only
  rw [pow_mul' h4, mul_inS (vld_mul he (vld_powC h4 _)) (vld_powC h4 _), mul_assoc' he (vld_powC h4 _) (vld_powC h4 _), pow_add' h4]
  have e2 : S * t + t * -n = (S - n) * t := by rw [Int.sub_mul, Int.mul_neg, Int.mul_comm n]; omega
  rw [e2]
theorem lt_strip {S : Int} {e : Tr} (he : vld3 e) (t : Tr) {n : Int} (hn : secB n = true) : strpC n (LT S e t) = LT (S - n) e t ∧ strpE n (LT S e t) = 0 := by
  have hA := lt_ok (S := S) he t
  constructor
  · unfold strpC
    rw [hn, hA]
    show (⟨stripC n 0 (cS S e.p t.p), stripC n 1 (cS S e.q t.q), stripC n 2 (cS S e.r t.r)⟩ : Se) = _
    rw [cS_strip he.1, cS_strip he.2.1, cS_strip he.2.2]
    rfl
  · unfold strpE
    rw [hn, if_pos rfl]
    exact chS_ok hA
theorem cS_read {e : Int} (he : vld e = true) (t : Int) : (cS 0 e t).b = e := by
  show mulC e (powC 4 (0 * t)) = e
  rw [Int.zero_mul, pow_0 vld_4, mul_oneS he]
theorem lt_read {x : Tr} (hx : wOK x = true) (t : Tr) : readC (LT 0 ⟨elC x.p, elC x.q, elC x.r⟩ t) = x ∧ chS (LT 0 ⟨elC x.p, elC x.q, elC x.r⟩ t) = 0 := by
  unfold wOK at hx
  simp only [Bool.and_eq_true] at hx
  obtain ⟨a, b, c⟩ := hx
  obtain ⟨a1, a2⟩ := elE_iff.1 a
  obtain ⟨b1, b2⟩ := elE_iff.1 b
  obtain ⟨c1, c2⟩ := elE_iff.1 c
  have he : vld3 ⟨elC x.p, elC x.q, elC x.r⟩ := ⟨vld_el a1 a2, vld_el b1 b2, vld_el c1 c2⟩
  have hA := lt_ok (S := 0) he t
  refine ⟨?_, chS_ok hA⟩
  unfold readC
  rw [hA]
  show (⟨numC (cS 0 (elC x.p) t.p).b, numC (cS 0 (elC x.q) t.q).b, numC (cS 0 (elC x.r) t.r).b⟩ : Tr) = x
  rw [cS_read he.1, cS_read he.2.1, cS_read he.2.2, num_el a1 a2, num_el b1 b2, num_el c1 c2]
/-- the letter made with a return address -/
theorem use_lt {S al p q : Int} (ha : 1 ≤ al ∧ al ≤ 1073741789) (hp : elE p = 0) (hq : elE q = 0) (r r0 r1 r2 : Int) :
    useS (powC 4 S) (makeA r) (makeB (powC 4 S) al r) (elC p) (elC q) r0 r1 r2 = LT S ⟨elC al, elC p, elC q⟩ ⟨r + r0, r1, r2⟩ ∧ wOK ⟨al, p, q⟩ = true ∧ vld3 ⟨elC al, elC p, elC q⟩ := by
  have h4 := vld_4
  have hw : wOK ⟨al, p, q⟩ = true := by
    unfold wOK
    simp only [Bool.and_eq_true]
    exact ⟨elE_iff.2 ha, beq_iff_eq.2 hp, beq_iff_eq.2 hq⟩
  have hp' := elE_iff.1 (beq_iff_eq.2 hp)
  have hq' := elE_iff.1 (beq_iff_eq.2 hq)
  have ve := vld_el ha.1 ha.2
  have vp := vld_el hp'.1 hp'.2
  have vq := vld_el hq'.1 hq'.2
  refine ⟨?_, hw, ⟨ve, vp, vq⟩⟩
  have k1 : timesC (makeA r) 4 r0 = powC 4 (r + r0) := by
    unfold makeA timesC
    rw [one_mulS (vld_powC h4 _), pow_add' h4]
  have k2 : timesC (makeB (powC 4 S) al r) (powC 4 S) r0 = mulC (elC al) (powC 4 (S * (r + r0))) := by
    unfold makeB timesC
    rw [pow_mul' h4, pow_mul' h4, mul_assoc' ve (vld_powC h4 _) (vld_powC h4 _), pow_add' h4, Int.mul_add]
  have k3 : ∀ n, timesC 1 4 n = powC 4 n := fun n => by unfold timesC; exact one_mulS (vld_powC h4 _)
  have k4 : ∀ x n, timesC x (powC 4 S) n = mulC x (powC 4 (S * n)) := fun x n => by unfold timesC; rw [pow_mul' h4]
  unfold useS LT cS
  rw [k1, k2, k3, k3, k4, k4]
/-! at the new office -/
theorem chain_last {D : Int → Option En} {p : Int} {met : List Int} {r : List (Int × Bool)} (h : Chain D p met r) : r ≠ [] ∧ ∀ e, r.getLast? = some (e, false) → D e = none := by
  induction h with
  | @stop p met h1 =>
    refine ⟨by simp, fun e he => ?_⟩
    simp at he
    rw [← he]; exact h1
  | @circle p met x h1 h2 =>
    refine ⟨by simp, fun e he => ?_⟩
    simp at he
  | @step p met x r h1 h2 _ ih =>
    refine ⟨by simp, fun e he => ?_⟩
    rw [List.getLast?_cons] at he
    cases hr : r.getLast? with
    | none => exact absurd (List.getLast?_eq_none_iff.1 hr) ih.1
    | some q =>
      rw [hr] at he
      refine ih.2 e ?_
      rw [hr]
      simpa using he
theorem whereH_of {en : List En} {p day time : Int} (ho : openE en p day time = 0) : whereH en p day time = whereD (deskL (standX en day time)) p (endL (standX en day time) p) := by unfold whereH; rw [if_pos ho]
theorem home_end {en : List En} {q day time : Int} (ho : openE en q day time = 0) (h1 : (whereH en q day time).1 = 1) :
    openE en (whereH en q day time).2.1 day time = 0 ∧ whereH en (whereH en q day time).2.1 day time = whereH en q day time := by
  obtain ⟨hs, hq⟩ := openE_is ho
  have hb := (whereH_bd ho).2.1
  have ho2 : openE en (whereH en q day time).2.1 day time = 0 := by
    unfold openE
    rw [if_pos hs, if_pos (by unfold idB; simp only [Bool.and_eq_true, decide_eq_true_eq]; exact hb)]
  refine ⟨ho2, ?_⟩
  clear hb
  have e1 : whereH en q day time = whereD (deskL (standX en day time)) q (endL (standX en day time) q) := whereH_of ho
  have e2 : whereH en (whereH en q day time).2.1 day time = whereD (deskL (standX en day time)) (whereH en q day time).2.1 (endL (standX en day time) (whereH en q day time).2.1) := whereH_of ho2
  rw [e2]
  obtain ⟨r, hc, hl⟩ := chain_desk (standX en day time) q
  rw [e1] at h1 ⊢
  clear e1 e2 ho2
  obtain ⟨z, hz⟩ : ∃ z, endL (standX en day time) q = z := ⟨_, rfl⟩
  rw [hz] at h1 hl ⊢
  obtain ⟨z, f⟩ := z
  unfold whereD at h1
  cases f with
  | true => simp at h1
  | false =>
    rw [if_neg (by simp)] at h1
    by_cases h34 : ((deskL (standX en day time) 3 z).isSome || (deskL (standX en day time) 4 z).isSome) = true
    · rw [if_pos h34] at h1; simp at h1
    · rw [if_neg h34] at h1
      by_cases h5 : (deskL (standX en day time) 1 z).isSome = true
      · have hw : whereD (deskL (standX en day time)) q (z, false) = (1, z, ((deskL (standX en day time) 1 z).getD zeroE).b) := by
          unfold whereD
          rw [if_neg (by simp), if_neg h34, if_pos h5]
        rw [hw]
        have hn := (chain_last hc).2 z hl
        have hz2 : endL (standX en day time) z = (z, false) := by
          unfold endL endF
          rw [hn]
        show whereD (deskL (standX en day time)) z (endL (standX en day time) z) = _
        rw [hz2]
        unfold whereD
        rw [if_neg (by simp), if_neg h34, if_pos h5]
      · rw [if_neg h5] at h1; simp at h1
theorem chkK_at {l : List Lx} {keys : List Int} {s people office o : Int} (h : chkK l keys s people office = 0) (hc : ckE s o (manyP people) = 0) : chkK l keys s people o = 0 := by
  obtain ⟨h1, h2, _⟩ := chkK_0 h
  obtain ⟨h3, h4, h5⟩ := ckE_0 hc
  have k1 : decide ((keys.length : Int) = l.length) = true := decide_eq_true (by omega)
  have k2 : secK s = true := by unfold secK; simp only [Bool.and_eq_true, decide_eq_true_eq]; exact h3
  have k3 : offB o = true := by unfold offB; simp only [Bool.and_eq_true, decide_eq_true_eq]; exact h5
  unfold chkK fchkE
  rw [k1, if_pos rfl, h2, if_pos rfl, k2, if_pos rfl, k3, if_pos rfl, h4, if_pos rfl]
theorem next_again {l : List Lx} {n : Int} {keys : List Int} {s : Int} {en : List En} {people office al day time r : Int} {h : Int × Int × Int} {k : Nat} (H : FullN l n keys s en people office al day time r h k) (al2 : Int)
    (hc : ckE s h.2.2 (manyP people) = 0) (hf : findV s people h.2.2 al2 = (h.2.1, true)) : nextR l n keys s en people h.2.2 al2 day time r = (homeF h, 0) := by
  have e := home_end H.opn (by rw [← H.whr]; exact H.dlv)
  rw [← H.whr] at e
  unfold nextR
  rw [if_neg (by rw [H.tt]; simp), if_neg (by rw [chkK_at H.chk hc]; simp), hf, if_neg (by simp), if_neg (by rw [e.1]; simp), e.2]
  unfold moreR
  rw [if_pos (.inr rfl)]
/-- the line from one office to another -/
theorem idxO_ends {l : List Lx} {o te : Int} {k : Nat} (h : idxO l o te = some k) : lineTo o te (l.getD k default) = true := (findK_is h).2.1
/-- the secrets that are left -/
def leftS (f : Int → Int) (ol : List Int) (k : Nat) : Int := ((ol.drop k).map f).sum
theorem leftS_0 (f : Int → Int) (ol : List Int) : leftS f ol 0 = (ol.map f).sum := rfl
theorem leftS_all (f : Int → Int) (ol : List Int) : leftS f ol ol.length = 0 := by unfold leftS; rw [List.drop_length]; rfl
theorem leftS_step (f : Int → Int) {ol : List Int} {k : Nat} (h : k < ol.length) : leftS f ol k - f (ol.getD k default) = leftS f ol (k + 1) := by
  unfold leftS
  rw [List.drop_eq_getElem_cons h, List.map_cons, List.sum_cons, List.getD_eq_getElem?_getD, List.getElem?_eq_getElem h]
  show f ol[k] + _ - f ol[k] = _
  omega
end Go.Proofs.YthckledagggoiaaGreatDoor
