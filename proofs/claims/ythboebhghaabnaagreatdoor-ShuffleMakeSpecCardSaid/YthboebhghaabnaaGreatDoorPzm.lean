import Derived.Test.YthboebhghaabnaaGreatDoorPzl
import Derived.Lib.AppendStr
/-! A drawn region whose head's operations each have one result in whatever order: every one of them, in whatever world that meets S, yields one value and keeps S. What follows is shown once, behind the head in the text's own order. -/
namespace Fk
open Go Go.RowKit
section
variable {P : Program} {ops : Array Oper} {Q : Exit → Act → World → Prop} {S : World → Prop} {n : Nat}
def NoP : Exit → Act → World → Prop := fun _ _ _ => False
/-- In act a, in whatever world that meets S, operation o yields v, and S holds behind it. -/
def Settles (P : Program) (ops : Array Oper) (S : World → Prop) (o : Oper) (v : Value) (a : Act) : Prop :=
  (Region.wanted o (yielded ops a.tmps) = true ∧ ∀ w, S w → o.wp P a w (fun a' w' => a' = a.put o.dst v ∧ S w') NoP) ∨ (Region.wanted o (yielded ops a.tmps) = false ∧ v = undef)
/-- m operations from number k on, one after the other. -/
def wpDet (P : Program) (ops : Array Oper) (S : World → Prop) (F : Act → Prop) : Nat → Nat → Act → Prop
  | 0, _, a => F a
  | m + 1, k, a => ∃ o v, ops[k]? = some o ∧ Settles P ops S o v a ∧ wpDet P ops S F m (k + 1) (a.put o.dst v)
theorem wpDet_path {F : Act → Prop} : ∀ (m k : Nat) (a : Act), wpDet P ops S F m k a →
    ∃ A : Nat → Act, A k = a ∧ (∀ i, k ≤ i → i < k + m → ∃ o v, ops[i]? = some o ∧ Settles P ops S o v (A i) ∧ A (i + 1) = (A i).put o.dst v) ∧ F (A (k + m))
  | 0, k, a, h => ⟨fun _ => a, rfl, fun i h1 h2 => absurd h2 (by omega), h⟩
  | m + 1, k, a, h => by
    obtain ⟨o, v, ho, hs, h⟩ := h
    obtain ⟨A, hA, hp, hf⟩ := wpDet_path m (k + 1) _ h
    refine ⟨fun i => if i = k then a else A i, by simp, fun i h1 h2 => ?_, ?_⟩
    · by_cases e : i = k
      · subst e
        refine ⟨o, v, ho, by simpa using hs, ?_⟩
        simp [hA]
      · obtain ⟨o', v', h3, h4, h5⟩ := hp i (by omega) (by omega)
        refine ⟨o', v', h3, by simpa [e] using h4, ?_⟩
        simp only [if_neg e, if_neg (show i + 1 ≠ k by omega)]
        exact h5
    · simp only [if_neg (show k + (m + 1) ≠ k by omega)]
      rw [show k + (m + 1) = k + 1 + m by omega]
      exact hf
def detB (ops : Array Oper) (n : Nat) : Bool :=
  Region.noSelect ops && decide (n < ops.size) && Region.sinkB .any ops n && Region.chainB .any ops n && Region.seqB .any ops (ops.size - n) n (fullL ops.size n) &&
  (List.range n).all fun i => match ops[i]? with
    | some o => (o.after.all fun e => !Region.binds .any e || decide (e.on < i)) && (List.range n).all fun k => match ops[k]? with
      | some ok => (match ok.dst with | some d => (decide (k = i) || o.dst != some d) && (!(o.looksAt ops).contains d || Region.waitsFor .any ops i k) | none => true)
      | none => true
    | none => false
structure DetInv (ops : Array Oper) (n : Nat) (A : Nat → Act) (L : Nat → Prop) (a : Act) : Prop where
  df : a.defers = (A 0).defers
  sz : a.tmps.size = (A 0).tmps.size
  on : ∀ k o d, k < n → L k → ops[k]? = some o → o.dst = some d → a.tmps[d]? = (A n).tmps[d]?
  off : ∀ t, (∀ k o, k < n → L k → ops[k]? = some o → o.dst ≠ some t) → a.tmps[t]? = (A 0).tmps[t]?
theorem Act.put_at (a : Act) (d : Option Tmp) (v : Value) (t : Tmp) (h : d ≠ some t) : (a.put d v).tmps[t]? = a.tmps[t]? := by
  cases d with
  | none => rfl
  | some d => exact Array.getElem?_setIfInBounds_ne (fun e => h (by rw [e]))
theorem Act.put_size (a : Act) (d : Option Tmp) (v : Value) : (a.put d v).tmps.size = a.tmps.size ∧ (a.put d v).defers = a.defers := by
  cases d <;> simp [Act.put]
theorem Act.put_here {a b : Act} (h : a.tmps.size = b.tmps.size) (d : Tmp) (v : Value) : (a.put (some d) v).tmps[d]? = (b.put (some d) v).tmps[d]? := by
  by_cases hd : d < a.tmps.size
  · simp [Act.put, hd, h ▸ hd]
  · simp [Act.put, hd, h ▸ hd]
theorem Act.put_same {a b : Act} (h : a.tmps.size = b.tmps.size) {d : Option Tmp} {u v : Value} (e : b.put d u = b.put d v) : a.put d u = a.put d v := by
  cases d with
  | none => rfl
  | some d =>
    by_cases hd : d < b.tmps.size
    · have : (b.put (some d) u).tmps[d]? = (b.put (some d) v).tmps[d]? := by rw [e]
      simp [Act.put, hd] at this
      rw [this]
    · have hd' : ¬ d < a.tmps.size := by rw [h]; exact hd
      simp [Act.put, Array.setIfInBounds, hd']
section
variable {A : Nat → Act}
theorem det_far (hd : ∀ i k oi ok d, i < n → k < n → ops[i]? = some oi → ops[k]? = some ok → ok.dst = some d → k ≠ i → oi.dst ≠ some d)
    (hA : ∀ i, i < n → ∃ o v, ops[i]? = some o ∧ Settles P ops S o v (A i) ∧ A (i + 1) = (A i).put o.dst v) {k : Nat} {ok : Oper} {d : Tmp} (hk : k < n) (ho : ops[k]? = some ok) (hdst : ok.dst = some d) :
    ∀ j, k < j → j ≤ n → (A j).tmps[d]? = (A (k + 1)).tmps[d]? := by
  intro j
  induction j with
  | zero => intro h; omega
  | succ j ih =>
    intro h1 h2
    by_cases e : j = k
    · rw [e]
    · obtain ⟨o, v, h3, _, h5⟩ := hA j (by omega)
      rw [h5, Act.put_at _ _ _ _ (hd j k o ok d (by omega) hk h3 ho hdst (by omega))]
      exact ih (by omega) (by omega)
theorem det_base (hA : ∀ i, i < n → ∃ o v, ops[i]? = some o ∧ Settles P ops S o v (A i) ∧ A (i + 1) = (A i).put o.dst v)
    (hd : ∀ i k oi ok d, i < n → k < n → ops[i]? = some oi → ops[k]? = some ok → ok.dst = some d → k ≠ i → oi.dst ≠ some d) : ∀ i, i ≤ n → DetInv ops n A (fun k => k < i) (A i) := by
  intro i
  induction i with
  | zero => exact fun _ => ⟨rfl, rfl, fun k _ _ _ h => absurd h (by omega), fun _ _ => rfl⟩
  | succ i ih =>
    intro hi
    have hI := ih (by omega)
    obtain ⟨o, v, h3, _, h5⟩ := hA i (by omega)
    obtain ⟨z1, z2⟩ := Act.put_size (A i) o.dst v
    refine ⟨by rw [h5, z2, hI.df], by rw [h5, z1, hI.sz], fun k ok d hk hL hok hdst => ?_, fun t ht => ?_⟩
    · exact (det_far hd hA hk hok hdst (i + 1) hL hi).trans (det_far hd hA hk hok hdst n hk (Nat.le_refl _)).symm
    · rw [h5, Act.put_at _ _ _ _ (ht i o (by omega) (Nat.lt_succ_self i) h3)]
      exact hI.off t (fun k ok hk hL hok => ht k ok hk (by omega) hok)
theorem det_agree {L L' : Nat → Prop} {a a' : Act} (h : DetInv ops n A L a) (h' : DetInv ops n A L' a') {o : Oper} (hs : ∀ cs b, o.op ≠ .select cs b)
    (hl : ∀ k ok d, k < n → ops[k]? = some ok → ok.dst = some d → d ∈ o.looksAt ops → L k ∧ L' k) :
    execOp a.eval o = execOp a'.eval o ∧ Region.wanted o (yielded ops a.tmps) = Region.wanted o (yielded ops a'.tmps) := by
  have key : ∀ t, t ∈ o.looksAt ops → a.tmps[t]? = a'.tmps[t]? := fun t ht => by
    rcases Classical.em (∃ k ok, k < n ∧ ops[k]? = some ok ∧ ok.dst = some t) with ⟨k, ok, hk, hok, hdst⟩ | hno
    · obtain ⟨l1, l2⟩ := hl k ok t hk hok hdst ht
      exact (h.on k ok t hk l1 hok hdst).trans (h'.on k ok t hk l2 hok hdst).symm
    · exact (h.off t (fun k ok hk _ hok hdst => hno ⟨k, ok, hk, hok, hdst⟩)).trans (h'.off t (fun k ok hk _ hok hdst => hno ⟨k, ok, hk, hok, hdst⟩)).symm
  constructor
  · refine execOp_congr o hs fun x hx => ?_
    cases x with
    | tmp t =>
      have := key t (List.mem_append_left _ (List.mem_filterMap.2 ⟨.tmp t, by simpa using hx, rfl⟩))
      simp [Act.eval, this]
    | _ => rfl
  · unfold Region.wanted
    cases hg : o.guard with
    | none => rfl
    | some gw =>
      obtain ⟨g, want⟩ := gw
      have hy : yielded ops a.tmps g = yielded ops a'.tmps g := by
        unfold yielded
        cases ht : (ops[g]?).bind (·.dst) with
        | none => rfl
        | some t =>
          have := key t (by simp [Oper.looksAt, hg, ht])
          simp [this]
      simp only [hy]
theorem settles_op {i : Nat} {o : Oper} {v : Value} {a b : Act} {w : World} {K : Act → World → Prop} (ho : ops[i]? = some o) (hs : Settles P ops S o v b) (hz : a.tmps.size = b.tmps.size)
    (he : execOp a.eval o = execOp b.eval o ∧ Region.wanted o (yielded ops a.tmps) = Region.wanted o (yielded ops b.tmps)) (hS : S w) (hK : ∀ w', S w' → K (a.put o.dst v) w') : wpOp P ops Q i K a w := by
  unfold wpOp
  simp only [ho]
  rcases hs with ⟨hw, h⟩ | ⟨hw, rfl⟩
  · rw [he.2, hw, if_pos rfl]
    refine .inl ?_
    have h := h w hS
    unfold Oper.wp at *
    rw [he.1]
    generalize (execOp b.eval o).run P w = r at *
    cases r with
    | ok nx w' =>
      cases nx <;> simp only [Oper.upon] at h ⊢
      case value u => rw [Act.put_same hz h.1]; exact hK _ h.2
      case skip => rw [Act.put_same hz h.1]; exact hK _ h.2
      case defer d =>
        exfalso
        have h1 := congrArg Act.defers h.1
        rw [(Act.put_size _ _ _).2, (Act.put_size _ _ _).2] at h1
        have h2 := congrArg List.length h1
        simp at h2
      case enter f args =>
        refine Calls.mono h fun e w'' he => ?_
        cases e with
        | returned u => show K (a.put o.dst u) w''; rw [Act.put_same hz he.1]; exact hK _ he.2
        | panicked c => exact False.elim he
        | outgrown => obtain ⟨_, _, h3⟩ := he; exact False.elim h3
      case row row args => exact Rows.mono h fun u w'' he => (by rw [Act.put_same hz he.1]; exact hK _ he.2)
    | halt x w' =>
      cases x <;> simp only [Oper.upon] at h ⊢
      case panic u => exact False.elim h
  · rw [he.2, hw]
    exact hK _ hS
theorem least_mem : ∀ (U : List Nat), U ≠ [] → ∃ i ∈ U, ∀ j ∈ U, i ≤ j
  | [], h => absurd rfl h
  | [x], _ => ⟨x, by simp, fun j hj => by simp at hj; omega⟩
  | x :: y :: r, _ => by
    obtain ⟨i, hi, hm⟩ := least_mem (y :: r) (by simp)
    by_cases h : x ≤ i
    · exact ⟨x, by simp, fun j hj => by
        rcases List.mem_cons.1 hj with rfl | hj
        · exact Nat.le_refl _
        · exact Nat.le_trans h (hm j hj)⟩
    · exact ⟨i, List.mem_cons_of_mem _ hi, fun j hj => by
        rcases List.mem_cons.1 hj with rfl | hj
        · omega
        · exact hm j hj⟩
theorem det_sound (hA : ∀ i, i < n → ∃ o v, ops[i]? = some o ∧ Settles P ops S o v (A i) ∧ A (i + 1) = (A i).put o.dst v)
    (hd : ∀ i k oi ok d, i < n → k < n → ops[i]? = some oi → ops[k]? = some ok → ok.dst = some d → k ≠ i → oi.dst ≠ some d)
    (hl : ∀ i k oi ok d, i < n → k < n → ops[i]? = some oi → ops[k]? = some ok → ok.dst = some d → d ∈ oi.looksAt ops → Region.waitsFor .any ops i k = true)
    (hb : ∀ i oi, i < n → ops[i]? = some oi → ∀ e ∈ oi.after, Region.binds .any e = true → e.on < i)
    (hsel : Region.noSelect ops = true) (hs : Region.sinkB .any ops n = true) (hc : Region.chainB .any ops n = true) (hn : n < ops.size)
    (hfin : ∀ w, S w → wpAny P .any ops Q (ops.size - n) (fullL ops.size n) (A n) w) :
    ∀ (m : Nat) (U : List Nat) (listed : Array Bool) (a : Act) (w : World), U.length = m → HeadInv .any ops n listed → U.Nodup → (∀ i, i ∈ U ↔ i < n ∧ listed.getD i true = false) →
      DetInv ops n A (fun k => listed.getD k true = true) a → S w → wpAny P .any ops Q (m + (ops.size - n)) listed a w := by
  intro m
  induction m with
  | zero =>
    intro U listed a w hm inv hnd hU hI hS
    obtain rfl : U = [] := List.eq_nil_of_length_eq_zero hm
    have hall : ∀ i, i < n → listed.getD i true = true := fun i hi => by
      cases hb : listed.getD i true with
      | true => rfl
      | false => exact absurd ((hU i).2 ⟨hi, hb⟩) (by simp)
    have hlst : listed = fullL ops.size n := by
      apply Array.ext
      · rw [inv.size]; simp [fullL]
      · intro i h1 h2
        have e : (fullL ops.size n)[i] = decide (i < n) := by simp [fullL]
        rw [e]
        by_cases hi : i < n
        · have := hall i hi
          rw [Array.getD_eq_getD_getElem?, Array.getElem?_eq_getElem h1] at this
          rw [decide_eq_true hi]; exact this
        · have := inv.tail i (by omega) (by rw [inv.size] at h1; exact h1)
          rw [Array.getD_eq_getD_getElem?, Array.getElem?_eq_getElem h1] at this
          rw [decide_eq_false hi]; exact this
    have hB := det_base hA hd n (Nat.le_refl _)
    have ha : a = A n := by
      have e1 : a.defers = (A n).defers := hI.df.trans hB.df.symm
      have e2 : a.tmps = (A n).tmps := by
        apply Array.ext_getElem?
        intro t
        rcases Classical.em (∃ k ok, k < n ∧ ops[k]? = some ok ∧ ok.dst = some t) with ⟨k, ok, hk, hok, hdst⟩ | hno
        · exact hI.on k ok t hk (hall k hk) hok hdst
        · exact (hI.off t (fun k ok hk _ hok hdst => hno ⟨k, ok, hk, hok, hdst⟩)).trans (hB.off t (fun k ok hk _ hok hdst => hno ⟨k, ok, hk, hok, hdst⟩)).symm
      revert e1 e2
      generalize A n = b
      intro e1 e2
      cases a; cases b
      simp only at e1 e2
      rw [e1, e2]
    rw [Nat.zero_add, hlst, ha]
    exact hfin w hS
  | succ m ih =>
    intro U listed a w hm inv hnd hU hI hS
    obtain ⟨i0, hi0, hmin⟩ := least_mem U (by intro e; rw [e] at hm; cases hm)
    obtain ⟨hin0, hun0⟩ := (hU i0).1 hi0
    rw [show m + 1 + (ops.size - n) = (m + (ops.size - n)) + 1 by omega]
    have hr0 : i0 ∈ Region.ready .any ops listed := by
      obtain ⟨o, _, ho, _⟩ := hA i0 hin0
      refine mem_ready.2 ⟨hun0, o, ho, fun e he hbd => ?_⟩
      have hlt := hb i0 o hin0 ho e he hbd
      cases hl : listed.getD e.on false with
      | true => rfl
      | false =>
        have h1 : e.on < listed.size := by rw [inv.size]; omega
        have := hmin e.on ((hU _).2 ⟨by omega, getD_in h1 hl⟩)
        omega
    refine ⟨fun e => (by rw [e] at hr0; cases hr0), fun i hi => ?_⟩
    have hin : i < n := by
      rcases Nat.lt_or_ge i n with h1 | h1
      · exact h1
      · exact absurd hi (tail_waits hs hc hn inv _ i0 rfl hin0 hun0 i h1)
    obtain ⟨hun, _⟩ := mem_ready.1 hi
    obtain ⟨o, v, ho, hset, hput⟩ := hA i hin
    have hBi := det_base hA hd i (by omega)
    have hag := det_agree hI hBi (fun cs b => Region.noSelect_spec hsel i o cs b ho) (fun k ok d hk hok hdst hlk => by
      have hw := hl i k o ok d hin hk ho hok hdst hlk
      obtain ⟨o', ho', e, he, hbd, hon⟩ := Region.waitsFor_spec hw
      obtain rfl : o' = o := Option.some.inj (ho'.symm.trans ho)
      refine ⟨?_, by have := hb i o' hin ho e he hbd; omega⟩
      obtain ⟨_, o2, ho2, hall⟩ := mem_ready.1 hi
      obtain rfl : o2 = o' := Option.some.inj (ho2.symm.trans ho)
      have h3 := hall e he hbd
      rw [hon] at h3
      cases h4 : listed.getD k true with
      | true => rfl
      | false => rw [getD_both h4] at h3; cases h3)
    have hszA : a.tmps.size = (A i).tmps.size := hI.sz.trans hBi.sz.symm
    have hiU : i ∈ U := (hU i).2 ⟨hin, hun⟩
    have hsz : i < listed.size := by rw [inv.size]; omega
    have hsetL : ∀ j, (listed.setIfInBounds i true).getD j true = if j = i then true else listed.getD j true := fun j => by
      by_cases e : j = i
      · subst e
        rw [if_pos rfl, Array.getD_eq_getD_getElem?, Array.getElem?_setIfInBounds_self_of_lt hsz]; rfl
      · rw [if_neg e, Array.getD_eq_getD_getElem?, Array.getElem?_setIfInBounds_ne (fun e2 => e e2.symm), Array.getD_eq_getD_getElem?]
    refine settles_op ho hset hszA hag hS (fun w' hS' => ?_)
    refine ih (U.erase i) (listed.setIfInBounds i true) _ w' (by rw [List.length_erase_of_mem hiU]; omega) (inv.set hi hin) (hnd.erase _) (fun j => ?_) ?_ hS'
    · rw [hnd.mem_erase_iff, hU, hsetL]
      by_cases e : j = i
      · simp [e]
      · simp [e]
    · obtain ⟨z1, z2⟩ := Act.put_size a o.dst v
      refine ⟨by rw [z2, hI.df], by rw [z1, hI.sz], fun k ok d hk hL hok hdst => ?_, fun t ht => ?_⟩
      · by_cases e : k = i
        · subst e
          obtain rfl : ok = o := Option.some.inj (hok.symm.trans ho)
          rw [hdst, Act.put_here hszA d v, ← hdst, ← hput]
          exact (det_far hd hA hin hok hdst n hin (Nat.le_refl _)).symm
        · simp only [hsetL, if_neg e] at hL
          rw [Act.put_at _ _ _ _ (hd i k o ok d hin hk ho hok hdst e)]
          exact hI.on k ok d hk hL hok hdst
      · have hne : o.dst ≠ some t := ht i o hin (by simp only [hsetL, if_true]) ho
        rw [Act.put_at _ _ _ _ hne]
        exact hI.off t (fun k ok hk hL hok => ht k ok hk (by simp only [hsetL]; split; rfl; exact hL) hok)
end
theorem regDet_any {l : List Oper} {a : Act} {w : World} (n : Nat) (S : World → Prop) (hB : detB l.toArray n = true)
    (hS : S w) (h : wpDet P l.toArray S (fun a => ∀ w, S w → wpList P l.toArray Q (l.drop n) a w) n 0 a) : wpAny P .any l.toArray Q l.toArray.size (Array.replicate l.toArray.size false) a w := by
  simp only [detB, Bool.and_eq_true, decide_eq_true_eq] at hB
  obtain ⟨⟨⟨⟨⟨hsel, hn⟩, hs⟩, hc⟩, hq⟩, hall⟩ := hB
  obtain ⟨A, hA0, hA, hF⟩ := wpDet_path n 0 a h
  rw [Nat.zero_add] at hF
  have hchk : ∀ i oi, i < n → l.toArray[i]? = some oi → (∀ e ∈ oi.after, Region.binds .any e = true → e.on < i) ∧ ∀ k ok d, k < n → l.toArray[k]? = some ok → ok.dst = some d → (k ≠ i → oi.dst ≠ some d) ∧ (d ∈ oi.looksAt l.toArray → Region.waitsFor .any l.toArray i k = true) := fun i oi hi ho => by
    have h1 := List.all_eq_true.1 hall i (List.mem_range.2 hi)
    rw [ho] at h1
    simp only [Bool.and_eq_true] at h1
    refine ⟨fun e he hb => ?_, fun k ok d hk hok hdst => ?_⟩
    · have h2 := Array.all_eq_true_iff_forall_mem.1 h1.1 e he
      rw [hb] at h2
      simpa using h2
    · have h2 := List.all_eq_true.1 h1.2 k (List.mem_range.2 hk)
      rw [hok] at h2
      simp only [hdst, Bool.and_eq_true] at h2
      refine ⟨fun hne => ?_, fun hm => ?_⟩
      · have h3 := h2.1
        simpa [hne] using h3
      · have h3 := h2.2
        simpa [hm] using h3
  have inv0 : HeadInv .any l.toArray n (Array.replicate l.toArray.size false) :=
    ⟨by simp, fun j oj _ hl => (by rw [getD_replicate_false] at hl; cases hl), fun t _ ht => getD_in (by simpa using ht) (getD_replicate_false _ _)⟩
  have hno : ∀ i, i < n → (Array.replicate l.toArray.size false).getD i true = false := fun i hi => getD_in (by simp at hn ⊢; omega) (getD_replicate_false _ _)
  have := det_sound (P := P) (Q := Q) (S := S) (A := A) (n := n) (ops := l.toArray) (fun i hi => by have := hA i (Nat.zero_le _) (by omega); exact this)
    (fun i k oi ok d hi hk ho hok hdst hne => ((hchk i oi hi ho).2 k ok d hk hok hdst).1 hne) (fun i k oi ok d hi hk ho hok hdst hm => ((hchk i oi hi ho).2 k ok d hk hok hdst).2 hm)
    (fun i oi hi ho => (hchk i oi hi ho).1) hsel hs hc hn (fun w hSw => by
      have h1 := wpAnyG_seq (P := P) (Q := Q) (S := fun _ => True) (md := .any) (fr := []) (l.drop n) n (fullL l.toArray.size n) (A n) w (Nat.le_refl _) (fun j => by simp [List.getElem?_drop]) (by simpa using hq) (hF w hSw)
      have h2 := wpAny_of_G _ _ _ _ h1
      rw [show (l.drop n).length = l.toArray.size - n by simp] at h2
      exact h2)
    n (List.range n) _ (A 0) w (by simp) inv0 List.nodup_range (fun i => by
      rw [List.mem_range]
      exact ⟨fun hi => ⟨hi, hno i hi⟩, fun h => h.1⟩) ⟨rfl, rfl, fun k o d hk hL => (by rw [hno k hk] at hL; cases hL), fun _ _ => rfl⟩ hS
  rw [hA0, show n + (l.toArray.size - n) = l.toArray.size by omega] at this
  exact this
theorem wp_region_det {id : Nat} {a : Act} {w : World} {l : List Oper} (n : Nat) (S : World → Prop) (hm : P.follows .mixedOrders = true) (hB : detB l.toArray n = true)
    (hS : S w.drew) (h : wpDet P l.toArray S (fun a => ∀ w, S w → wpList P l.toArray Q (l.drop n) a w) n 0 a) : (Code.region id l.toArray true).wp P Q a w :=
  wp_region_any hm (regDet_any n S hB hS h)
theorem wpIn_region_det {lb m : Nat} {id : Nat} {a : Act} {w : World} {l : List Oper} (n : Nat) (S : World → Prop) (hm : P.follows .mixedOrders = true) (hB : (detB l.toArray n && noDefer l.toArray) = true)
    (hL : ¬ LetsOut Q) (hS : S w.drew) (h : wpDet P l.toArray S (fun a => ∀ w, S w → wpList P l.toArray Q (l.drop n) a w) n 0 a) : (Code.region id l.toArray true).wpIn (Fence.wide.inRound lb) m P Q a w := by
  rw [Bool.and_eq_true] at hB
  exact wpIn_region_any hm (wpAnyIn_of lb m hB.2 hL _ _ _ _ (regDet_any n S hB.1 hS h))
/-! ### the steps -/
variable {F : Act → Prop}
theorem wpDet_take {m k : Nat} {o : Oper} {v : Value} {a : Act} (ho : ops[k]? = some o) (hw : Region.wanted o (yielded ops a.tmps) = true)
    (hy : ∀ w, S w → (execOp a.eval o).run P w = .ok (.value v) w) (h : wpDet P ops S F m (k + 1) (a.put o.dst v)) : wpDet P ops S F (m + 1) k a :=
  ⟨o, v, ho, .inl ⟨hw, fun w hS => by unfold Oper.wp; rw [hy w hS]; exact ⟨rfl, hS⟩⟩, h⟩
theorem wpDet_skip {m k : Nat} {o : Oper} {a : Act} (ho : ops[k]? = some o) (hw : Region.wanted o (yielded ops a.tmps) = false)
    (h : wpDet P ops S F m (k + 1) (a.put o.dst undef)) : wpDet P ops S F (m + 1) k a :=
  ⟨o, undef, ho, .inr ⟨hw, rfl⟩, h⟩
theorem wpDet_call {m k : Nat} {o : Oper} {v : Value} {a : Act} (ho : ops[k]? = some o) (hw : Region.wanted o (yielded ops a.tmps) = true)
    (hy : ∀ w, S w → ∀ K : Act → World → Prop, (∀ w', S w' → K (a.put o.dst v) w') → o.wp P a w K NoP) (h : wpDet P ops S F m (k + 1) (a.put o.dst v)) : wpDet P ops S F (m + 1) k a :=
  ⟨o, v, ho, .inl ⟨hw, fun w hS => hy w hS _ (fun _ hS' => ⟨rfl, hS'⟩)⟩, h⟩
theorem wpDet_done {k : Nat} {a : Act} (h : F a) : wpDet P ops S F 0 k a := h
end
end Fk

/-! As XDet, where one operation of the head lays a new block (number p) that no other operation of the head looks at, and where the tail need not wait for some operations (fr) that yield their value in whatever world. -/
namespace Fk
open Go Go.RowKit
section
variable {P : Program} {ops : Array Oper} {Q : Exit → Act → World → Prop} {S : World → Prop} {n p dp : Nat} {ob : Obj} {sl : Nat → Value} {fr : List Nat}
/-- As Settles, and what stood stands on. -/
def SettlesB (P : Program) (ops : Array Oper) (S : World → Prop) (o : Oper) (v : Value) (a : Act) : Prop :=
  (Region.wanted o (yielded ops a.tmps) = true ∧ ∀ w, S w → o.wp P a w (fun a' w' => a' = a.put o.dst v ∧ S w' ∧ Below w.heap.size w w') NoP) ∨ (Region.wanted o (yielded ops a.tmps) = false ∧ v = undef)
def LaysAt (P : Program) (o : Oper) (ob : Obj) (sl : Nat → Value) : Prop := o.guard = none ∧ ∀ (a : Act) (w : World), (execOp a.eval o).run P w = .ok (.value (sl w.heap.size)) (w.alloc ob)
def stepA (P : Program) (ops : Array Oper) (S : World → Prop) (p : Nat) (ob : Obj) (sl : Nat → Value) (fr : List Nat) (k : Nat) (o : Oper) (v : Value) (a : Act) : Prop :=
  if k = p then LaysAt P o ob sl ∧ v = undef else SettlesB P ops S o v a ∧ (fr.contains k = true → Yields P ops o v a)
def wpDetA (P : Program) (ops : Array Oper) (S : World → Prop) (p : Nat) (ob : Obj) (sl : Nat → Value) (fr : List Nat) (F : Act → Prop) : Nat → Nat → Act → Prop
  | 0, _, a => F a
  | m + 1, k, a => ∃ o v, ops[k]? = some o ∧ stepA P ops S p ob sl fr k o v a ∧ wpDetA P ops S p ob sl fr F m (k + 1) (a.put o.dst v)
theorem wpDetA_path {F : Act → Prop} : ∀ (m k : Nat) (a : Act), wpDetA P ops S p ob sl fr F m k a →
    ∃ A : Nat → Act, A k = a ∧ (∀ i, k ≤ i → i < k + m → ∃ o v, ops[i]? = some o ∧ stepA P ops S p ob sl fr i o v (A i) ∧ A (i + 1) = (A i).put o.dst v) ∧ F (A (k + m))
  | 0, k, a, h => ⟨fun _ => a, rfl, fun i h1 h2 => absurd h2 (by omega), h⟩
  | m + 1, k, a, h => by
    obtain ⟨o, v, ho, hs, h⟩ := h
    obtain ⟨A, hA, hp, hf⟩ := wpDetA_path m (k + 1) _ h
    refine ⟨fun i => if i = k then a else A i, by simp, fun i h1 h2 => ?_, ?_⟩
    · by_cases e : i = k
      · subst e
        refine ⟨o, v, ho, by simpa using hs, ?_⟩
        simp [hA]
      · obtain ⟨o', v', h3, h4, h5⟩ := hp i (by omega) (by omega)
        refine ⟨o', v', h3, by simpa [e] using h4, ?_⟩
        simp only [if_neg e, if_neg (show i + 1 ≠ k by omega)]
        exact h5
    · simp only [if_neg (show k + (m + 1) ≠ k by omega)]
      rw [show k + (m + 1) = k + 1 + m by omega]
      exact hf
def detC (ops : Array Oper) (n : Nat) (fr : List Nat) : Bool :=
  Region.noSelect ops && decide (n < ops.size) && sinkF .any ops n fr && Region.chainB .any ops n && Region.seqB .any ops (ops.size - n) n (fullL ops.size n) &&
  (List.range n).all fun i => match ops[i]? with
    | some o => (o.after.all fun e => !Region.binds .any e || decide (e.on < i)) && (List.range n).all fun k => match ops[k]? with
      | some ok => (match ok.dst with | some d => (decide (k = i) || o.dst != some d) && (!(o.looksAt ops).contains d || Region.waitsFor .any ops i k) | none => true)
      | none => true
    | none => false
def freeB (ops : Array Oper) (i : Nat) : Bool :=
  match ops[i]? with
  | some oi => (List.range ops.size).all fun j => match ops[j]? with | some oj => decide (j = i) || Region.waitsFor .any ops j i || Region.waitsFor .any ops i j || oi.apart ops oj | none => true
  | none => false
def detAB (ops : Array Oper) (n p dp : Nat) (fr : List Nat) : Bool :=
  detC ops n fr && fr.all (freeB ops) && !fr.contains p && decide (p < n) && (match ops[p]? with | some o => o.dst == some dp | none => false) && (List.range n).all fun i => match ops[i]? with | some o => !(o.looksAt ops).contains dp | none => true
structure DetInvA (ops : Array Oper) (n p dp : Nat) (ob : Obj) (sl : Nat → Value) (w0 : World) (A : Nat → Act) (L : Nat → Prop) (b : Nat) (a : Act) (w : World) : Prop where
  df : a.defers = (A 0).defers
  sz : a.tmps.size = (A 0).tmps.size
  on : ∀ k o d, k < n → L k → k ≠ p → ops[k]? = some o → o.dst = some d → a.tmps[d]? = (A n).tmps[d]?
  off : ∀ t, (∀ k o, k < n → L k → ops[k]? = some o → o.dst ≠ some t) → a.tmps[t]? = (A 0).tmps[t]?
  lay : L p → a.tmps[dp]? = ((A 0).put (some dp) (sl b)).tmps[dp]? ∧ w.heap[b]? = some ob ∧ w0.heap.size ≤ b
  be : Below w0.heap.size w0 w
section
variable {A : Nat → Act}
theorem detA_far (hd : ∀ i k oi ok d, i < n → k < n → ops[i]? = some oi → ops[k]? = some ok → ok.dst = some d → k ≠ i → oi.dst ≠ some d)
    (hA : ∀ i, i < n → ∃ o v, ops[i]? = some o ∧ stepA P ops S p ob sl fr i o v (A i) ∧ A (i + 1) = (A i).put o.dst v) {k : Nat} {ok : Oper} {d : Tmp} (hk : k < n) (ho : ops[k]? = some ok) (hdst : ok.dst = some d) :
    ∀ j, k < j → j ≤ n → (A j).tmps[d]? = (A (k + 1)).tmps[d]? := by
  intro j
  induction j with
  | zero => intro h; omega
  | succ j ih =>
    intro h1 h2
    by_cases e : j = k
    · rw [e]
    · obtain ⟨o, v, h3, _, h5⟩ := hA j (by omega)
      rw [h5, Act.put_at _ _ _ _ (hd j k o ok d (by omega) hk h3 ho hdst (by omega))]
      exact ih (by omega) (by omega)
theorem detA_base (hA : ∀ i, i < n → ∃ o v, ops[i]? = some o ∧ stepA P ops S p ob sl fr i o v (A i) ∧ A (i + 1) = (A i).put o.dst v)
    (hd : ∀ i k oi ok d, i < n → k < n → ops[i]? = some oi → ops[k]? = some ok → ok.dst = some d → k ≠ i → oi.dst ≠ some d) : ∀ i, i ≤ n → DetInv ops n A (fun k => k < i) (A i) := by
  intro i
  induction i with
  | zero => exact fun _ => ⟨rfl, rfl, fun k _ _ _ h => absurd h (by omega), fun _ _ => rfl⟩
  | succ i ih =>
    intro hi
    have hI := ih (by omega)
    obtain ⟨o, v, h3, _, h5⟩ := hA i (by omega)
    obtain ⟨z1, z2⟩ := Act.put_size (A i) o.dst v
    refine ⟨by rw [h5, z2, hI.df], by rw [h5, z1, hI.sz], fun k ok d hk hL hok hdst => ?_, fun t ht => ?_⟩
    · exact (detA_far hd hA hk hok hdst (i + 1) hL hi).trans (detA_far hd hA hk hok hdst n hk (Nat.le_refl _)).symm
    · rw [h5, Act.put_at _ _ _ _ (ht i o (by omega) (Nat.lt_succ_self i) h3)]
      exact hI.off t (fun k ok hk hL hok => ht k ok hk (by omega) hok)
theorem detA_agree {L L' : Nat → Prop} {a a' : Act} {b : Nat} {w w0 : World} (hpd : ∀ o, ops[p]? = some o → o.dst = some dp) (h : DetInvA ops n p dp ob sl w0 A L b a w) (h' : DetInv ops n A L' a') {o : Oper} (hs : ∀ cs b, o.op ≠ .select cs b) (hno : dp ∉ o.looksAt ops)
    (hl : ∀ k ok d, k < n → ops[k]? = some ok → ok.dst = some d → d ∈ o.looksAt ops → L k ∧ L' k) :
    execOp a.eval o = execOp a'.eval o ∧ Region.wanted o (yielded ops a.tmps) = Region.wanted o (yielded ops a'.tmps) := by
  have key : ∀ t, t ∈ o.looksAt ops → a.tmps[t]? = a'.tmps[t]? := fun t ht => by
    rcases Classical.em (∃ k ok, k < n ∧ ops[k]? = some ok ∧ ok.dst = some t) with ⟨k, ok, hk, hok, hdst⟩ | hno'
    · obtain ⟨l1, l2⟩ := hl k ok t hk hok hdst ht
      have hkp : k ≠ p := fun e => by
        subst e
        have := (hpd ok hok).symm.trans hdst
        injection this with this
        rw [this] at hno
        exact hno ht
      exact (h.on k ok t hk l1 hkp hok hdst).trans (h'.on k ok t hk l2 hok hdst).symm
    · exact (h.off t (fun k ok hk _ hok hdst => hno' ⟨k, ok, hk, hok, hdst⟩)).trans (h'.off t (fun k ok hk _ hok hdst => hno' ⟨k, ok, hk, hok, hdst⟩)).symm
  constructor
  · refine execOp_congr o hs fun x hx => ?_
    cases x with
    | tmp t =>
      have := key t (List.mem_append_left _ (List.mem_filterMap.2 ⟨.tmp t, by simpa using hx, rfl⟩))
      simp [Act.eval, this]
    | _ => rfl
  · unfold Region.wanted
    cases hg : o.guard with
    | none => rfl
    | some gw =>
      obtain ⟨g, want⟩ := gw
      have hy : yielded ops a.tmps g = yielded ops a'.tmps g := by
        unfold yielded
        cases ht : (ops[g]?).bind (·.dst) with
        | none => rfl
        | some t =>
          have := key t (by simp [Oper.looksAt, hg, ht])
          simp [this]
      simp only [hy]
theorem settlesB_op {i : Nat} {o : Oper} {v : Value} {a b : Act} {w : World} {K : Act → World → Prop} (ho : ops[i]? = some o) (hs : SettlesB P ops S o v b) (hz : a.tmps.size = b.tmps.size)
    (he : execOp a.eval o = execOp b.eval o ∧ Region.wanted o (yielded ops a.tmps) = Region.wanted o (yielded ops b.tmps)) (hS : S w) (hK : ∀ w', S w' → Below w.heap.size w w' → K (a.put o.dst v) w') : wpOp P ops Q i K a w := by
  refine settles_op (S := fun w' => S w' ∧ Below w.heap.size w w') (v := v) ho ?_ hz he ⟨hS, Below.refl _ _⟩ (fun w' h => hK w' h.1 h.2)
  exact hs.imp (fun ⟨h1, h2⟩ => ⟨h1, fun w1 hw1 => Oper.wp_mono (fun a' w' h => ⟨h.1, h.2.1, hw1.2.trans (h.2.2.mono hw1.2.size)⟩) (h2 w1 hw1.1)⟩) id
theorem detA_sound {w0 : World} (hA : ∀ i, i < n → ∃ o v, ops[i]? = some o ∧ stepA P ops S p ob sl fr i o v (A i) ∧ A (i + 1) = (A i).put o.dst v)
    (hd : ∀ i k oi ok d, i < n → k < n → ops[i]? = some oi → ops[k]? = some ok → ok.dst = some d → k ≠ i → oi.dst ≠ some d)
    (hl : ∀ i k oi ok d, i < n → k < n → ops[i]? = some oi → ops[k]? = some ok → ok.dst = some d → d ∈ oi.looksAt ops → Region.waitsFor .any ops i k = true)
    (hb : ∀ i oi, i < n → ops[i]? = some oi → ∀ e ∈ oi.after, Region.binds .any e = true → e.on < i)
    (hpd : ∀ o, ops[p]? = some o → o.dst = some dp) (hpn : p < n) (hnl : ∀ i oi, i < n → ops[i]? = some oi → dp ∉ oi.looksAt ops) (hSA : ∀ w o, S w → S (w.alloc o))
    (hsel : Region.noSelect ops = true) (hs : sinkF .any ops n fr = true) (hc : Region.chainB .any ops n = true) (hn : n < ops.size) (hQ : ∀ c a (d : Option Tmp) v w, Q (.panic c) (Act.put a d v) w → Q (.panic c) a w)
    (hfr : ∀ i, fr.contains i = true → freeB ops i = true) (hpf : fr.contains p = false)
    (hfin : ∀ b w, S w → w.heap[b]? = some ob → w0.heap.size ≤ b → Below w0.heap.size w0 w → wpAny P .any ops Q (ops.size - n) (fullL ops.size n) ((A n).put (some dp) (sl b)) w) :
    ∀ (m : Nat) (U : List Nat) (listed : Array Bool) (b : Nat) (a : Act) (w : World), U.length = m → HeadInv .any ops n listed → U.Nodup → (∀ i, i ∈ U ↔ i < n ∧ listed.getD i true = false) →
      DetInvA ops n p dp ob sl w0 A (fun k => listed.getD k true = true) b a w → S w → wpAny P .any ops Q (m + (ops.size - n)) listed a w := by
  intro m
  induction m with
  | zero =>
    intro U listed b a w hm inv hnd hU hI hS
    obtain rfl : U = [] := List.eq_nil_of_length_eq_zero hm
    have hall : ∀ i, i < n → listed.getD i true = true := fun i hi => by
      cases hb : listed.getD i true with
      | true => rfl
      | false => exact absurd ((hU i).2 ⟨hi, hb⟩) (by simp)
    have hlst : listed = fullL ops.size n := by
      apply Array.ext
      · rw [inv.size]; simp [fullL]
      · intro i h1 h2
        have e : (fullL ops.size n)[i] = decide (i < n) := by simp [fullL]
        rw [e]
        by_cases hi : i < n
        · have := hall i hi
          rw [Array.getD_eq_getD_getElem?, Array.getElem?_eq_getElem h1] at this
          rw [decide_eq_true hi]; exact this
        · have := inv.tail i (by omega) (by rw [inv.size] at h1; exact h1)
          rw [Array.getD_eq_getD_getElem?, Array.getElem?_eq_getElem h1] at this
          rw [decide_eq_false hi]; exact this
    have hB := detA_base hA hd n (Nat.le_refl _)
    obtain ⟨l1, l2, l3⟩ := hI.lay (hall p hpn)
    have ha : a = (A n).put (some dp) (sl b) := by
      have e1 : a.defers = ((A n).put (some dp) (sl b)).defers := hI.df.trans (hB.df.symm.trans (Act.put_size _ _ _).2.symm)
      have e2 : a.tmps = ((A n).put (some dp) (sl b)).tmps := by
        apply Array.ext_getElem?
        intro t
        by_cases etp : t = dp
        · subst etp
          exact l1.trans (Act.put_here hB.sz.symm t (sl b))
        rw [Act.put_at _ _ _ _ (show some dp ≠ some t from fun e => etp (Option.some.inj e).symm)]
        rcases Classical.em (∃ k ok, k < n ∧ ops[k]? = some ok ∧ ok.dst = some t) with ⟨k, ok, hk, hok, hdst⟩ | hno
        · refine hI.on k ok t hk (hall k hk) (fun e => ?_) hok hdst
          subst e
          exact etp (Option.some.inj ((hpd ok hok).symm.trans hdst)).symm
        · exact (hI.off t (fun k ok hk _ hok hdst => hno ⟨k, ok, hk, hok, hdst⟩)).trans (hB.off t (fun k ok hk _ hok hdst => hno ⟨k, ok, hk, hok, hdst⟩)).symm
      revert e1 e2
      generalize (A n).put (some dp) (sl b) = b'
      intro e1 e2
      cases a; cases b'
      simp only at e1 e2
      rw [e1, e2]
    rw [Nat.zero_add, hlst, ha]
    exact hfin b w hS l2 l3 hI.be
  | succ m ih =>
    intro U listed b a w hm inv hnd hU hI hS
    obtain ⟨i0, hi0, hmin⟩ := least_mem U (by intro e; rw [e] at hm; cases hm)
    obtain ⟨hin0, hun0⟩ := (hU i0).1 hi0
    rw [show m + 1 + (ops.size - n) = (m + (ops.size - n)) + 1 by omega]
    have hr0 : i0 ∈ Region.ready .any ops listed := by
      obtain ⟨o, _, ho, _⟩ := hA i0 hin0
      refine mem_ready.2 ⟨hun0, o, ho, fun e he hbd => ?_⟩
      have hlt := hb i0 o hin0 ho e he hbd
      cases hl : listed.getD e.on false with
      | true => rfl
      | false =>
        have h1 : e.on < listed.size := by rw [inv.size]; omega
        have := hmin e.on ((hU _).2 ⟨by omega, getD_in h1 hl⟩)
        omega
    have hready : ∀ i, i < n → i ∈ Region.ready .any ops listed → ∀ o, ops[i]? = some o → execOp a.eval o = execOp (A i).eval o ∧ Region.wanted o (yielded ops a.tmps) = Region.wanted o (yielded ops (A i).tmps) := fun i hin hi o ho => by
      have hBi := detA_base hA hd i (by omega)
      refine detA_agree hpd hI hBi (fun cs b => Region.noSelect_spec hsel i o cs b ho) (hnl i o hin ho) (fun k ok d hk hok hdst hlk => ?_)
      have hw := hl i k o ok d hin hk ho hok hdst hlk
      obtain ⟨o', ho', e, he, hbd, hon⟩ := Region.waitsFor_spec hw
      obtain rfl : o' = o := Option.some.inj (ho'.symm.trans ho)
      refine ⟨?_, by have := hb i o' hin ho e he hbd; omega⟩
      obtain ⟨_, o2, ho2, hall⟩ := mem_ready.1 hi
      obtain rfl : o2 = o' := Option.some.inj (ho2.symm.trans ho)
      have h3 := hall e he hbd
      rw [hon] at h3
      cases h4 : listed.getD k true with
      | true => rfl
      | false => rw [getD_both h4] at h3; cases h3
    have hUe : ∀ i, i < n → listed.getD i true = false → ∀ j, j ∈ U.erase i ↔ j < n ∧ (listed.setIfInBounds i true).getD j true = false := fun i hin hun j => by
      have hsz : i < listed.size := by rw [inv.size]; omega
      rw [hnd.mem_erase_iff, hU]
      by_cases e : j = i
      · subst e
        simp [Array.getElem?_setIfInBounds_self_of_lt hsz]
      · rw [getD_set_ne true (fun e2 => e e2.symm)]
        simp [e]
    by_cases hfree : ∀ i ∈ U, fr.contains i = true
    · -- all that is left of the head is free: take the least first
      have hff := hfree i0 hi0
      obtain ⟨o, v, ho, hst, hput⟩ := hA i0 hin0
      have hip : i0 ≠ p := fun e => by subst e; rw [hpf] at hff; cases hff
      unfold stepA at hst
      rw [if_neg hip] at hst
      have hBi := detA_base hA hd i0 (by omega)
      have hag := hready i0 hin0 hr0 o ho
      have hy : Yields P ops o v a := (hst.2 hff).of_same hag.1 hag.2
      have hfB := hfr i0 hff
      unfold freeB at hfB
      rw [ho] at hfB
      refine wpAny_first ho (Region.noSelect_spec hsel) (fun c a w => hQ c a o.dst v w) _ listed a w (fun j oj hoj hji hun hno => ?_) hr0 hy ?_
      · have hjs : j < ops.size := (Array.getElem?_eq_some_iff.1 hoj).1
        have h1 := List.all_eq_true.1 hfB j (List.mem_range.2 hjs)
        rw [hoj] at h1
        simp only [Bool.or_eq_true, decide_eq_true_eq] at h1
        rcases h1 with ((h1 | h1) | h1) | h1
        · exact absurd h1 hji
        · obtain ⟨o', ho', e, he, hbd, hon⟩ := Region.waitsFor_spec h1
          obtain rfl : o' = oj := Option.some.inj (ho'.symm.trans hoj)
          exact absurd hon (hno e he hbd)
        · obtain ⟨o', ho', e, he, hbd, hon⟩ := Region.waitsFor_spec h1
          obtain rfl : o' = o := Option.some.inj (ho'.symm.trans ho)
          obtain ⟨_, o2, ho2, hall⟩ := mem_ready.1 hr0
          obtain rfl : o2 = o' := Option.some.inj (ho2.symm.trans ho)
          have h3 := hall e he hbd
          rw [hon, getD_both hun] at h3
          cases h3
        · exact h1
      · have hszA : a.tmps.size = (A i0).tmps.size := hI.sz.trans hBi.sz.symm
        refine ih (U.erase i0) (listed.setIfInBounds i0 true) b _ w (by rw [List.length_erase_of_mem hi0]; omega) (inv.set hr0 hin0) (hnd.erase _) (hUe i0 hin0 hun0) ?_ hS
        obtain ⟨z1, z2⟩ := Act.put_size a o.dst v
        have hsz : i0 < listed.size := by rw [inv.size]; omega
        have hsetL : ∀ j, (listed.setIfInBounds i0 true).getD j true = if j = i0 then true else listed.getD j true := fun j => by
          by_cases e : j = i0
          · subst e
            rw [if_pos rfl, Array.getD_eq_getD_getElem?, Array.getElem?_setIfInBounds_self_of_lt hsz]; rfl
          · rw [if_neg e, Array.getD_eq_getD_getElem?, Array.getElem?_setIfInBounds_ne (fun e2 => e e2.symm), Array.getD_eq_getD_getElem?]
        refine ⟨by rw [z2, hI.df], by rw [z1, hI.sz], fun k ok d hk hL hkp hok hdst => ?_, fun t ht => ?_, fun hLp => ?_, hI.be⟩
        · by_cases e : k = i0
          · subst e
            obtain rfl : ok = o := Option.some.inj (hok.symm.trans ho)
            rw [hdst, Act.put_here hszA d v, ← hdst, ← hput]
            exact (detA_far hd hA hin0 hok hdst n hin0 (Nat.le_refl _)).symm
          · simp only [hsetL, if_neg e] at hL
            rw [Act.put_at _ _ _ _ (hd i0 k o ok d hin0 hk ho hok hdst e)]
            exact hI.on k ok d hk hL hkp hok hdst
        · have hne : o.dst ≠ some t := ht i0 o hin0 (by simp only [hsetL, if_true]) ho
          rw [Act.put_at _ _ _ _ hne]
          exact hI.off t (fun k ok hk hL hok => ht k ok hk (by simp only [hsetL]; split; rfl; exact hL) hok)
        · simp only [hsetL, if_neg (fun e : p = i0 => hip e.symm)] at hLp
          obtain ⟨l1, l2, l3⟩ := hI.lay hLp
          obtain ⟨op, _, hop, _⟩ := hA p hpn
          refine ⟨?_, l2, l3⟩
          rw [Act.put_at _ _ _ _ (hd i0 p o op dp hin0 hpn ho hop (hpd op hop) (fun e => hip e.symm))]
          exact l1
    obtain ⟨i1, hi1, hnf1⟩ : ∃ i ∈ U, fr.contains i = false := by
      rcases Classical.em (∃ i ∈ U, fr.contains i = false) with h | h
      · exact h
      · refine absurd (fun i hi => ?_) hfree
        cases hb : fr.contains i with
        | true => rfl
        | false => exact absurd ⟨i, hi, hb⟩ h
    obtain ⟨hin1, hun1⟩ := (hU i1).1 hi1
    refine ⟨fun e => (by rw [e] at hr0; cases hr0), fun i hi => ?_⟩
    have hin : i < n := by
      rcases Nat.lt_or_ge i n with h1 | h1
      · exact h1
      · exact absurd hi (tail_waitsF hs hc hn inv _ i1 rfl hin1 hnf1 hun1 i h1)
    obtain ⟨hun, _⟩ := mem_ready.1 hi
    obtain ⟨o, v, ho, hset, hput⟩ := hA i hin
    have hBi := detA_base hA hd i (by omega)
    have hag := hready i hin hi o ho
    unfold stepA at hset
    have hszA : a.tmps.size = (A i).tmps.size := hI.sz.trans hBi.sz.symm
    have hiU : i ∈ U := (hU i).2 ⟨hin, hun⟩
    have hsz : i < listed.size := by rw [inv.size]; omega
    have hsetL : ∀ j, (listed.setIfInBounds i true).getD j true = if j = i then true else listed.getD j true := fun j => by
      by_cases e : j = i
      · subst e
        rw [if_pos rfl, Array.getD_eq_getD_getElem?, Array.getElem?_setIfInBounds_self_of_lt hsz]; rfl
      · rw [if_neg e, Array.getD_eq_getD_getElem?, Array.getElem?_setIfInBounds_ne (fun e2 => e e2.symm), Array.getD_eq_getD_getElem?]
    have hU' : ∀ j, j ∈ U.erase i ↔ j < n ∧ (listed.setIfInBounds i true).getD j true = false := fun j => by
      rw [hnd.mem_erase_iff, hU, hsetL]
      by_cases e : j = i
      · simp [e]
      · simp [e]
    by_cases eip : i = p
    · rw [if_pos eip] at hset
      subst eip
      obtain ⟨⟨hg, hrun⟩, rfl⟩ := hset
      have hdst := hpd o ho
      unfold wpOp
      simp only [ho]
      rw [if_pos (by simp [Region.wanted, hg])]
      refine .inl ?_
      unfold Oper.wp
      rw [hrun]
      show wpAny P .any ops Q _ _ (a.put o.dst (sl w.heap.size)) (w.alloc ob)
      rw [hdst]
      refine ih (U.erase i) (listed.setIfInBounds i true) w.heap.size _ _ (by rw [List.length_erase_of_mem hiU]; omega) (inv.set hi hin) (hnd.erase _) hU' ?_ (hSA _ _ hS)
      obtain ⟨z1, z2⟩ := Act.put_size a (some dp) (sl w.heap.size)
      refine ⟨by rw [z2, hI.df], by rw [z1, hI.sz], fun k ok d hk hL hkp hok hdk => ?_, fun t ht => ?_, fun _ => ⟨Act.put_here hI.sz dp _, World.alloc_heap_new w _, hI.be.size⟩, hI.be.alloc hI.be.size _⟩
      · simp only [hsetL, if_neg hkp] at hL
        rw [Act.put_at _ _ _ _ (by rw [← hdst]; exact hd i k o ok d hin hk ho hok hdk hkp)]
        exact hI.on k ok d hk hL hkp hok hdk
      · have hne : o.dst ≠ some t := ht i o hin (by simp only [hsetL, if_true]) ho
        rw [Act.put_at _ _ _ _ (by rw [← hdst]; exact hne)]
        exact hI.off t (fun k ok hk hL hok => ht k ok hk (by simp only [hsetL]; split; rfl; exact hL) hok)
    · rw [if_neg eip] at hset
      refine settlesB_op ho hset.1 hszA hag hS (fun w' hS' hbe => ?_)
      refine ih (U.erase i) (listed.setIfInBounds i true) b _ w' (by rw [List.length_erase_of_mem hiU]; omega) (inv.set hi hin) (hnd.erase _) hU' ?_ hS'
      obtain ⟨z1, z2⟩ := Act.put_size a o.dst v
      refine ⟨by rw [z2, hI.df], by rw [z1, hI.sz], fun k ok d hk hL hkp hok hdst => ?_, fun t ht => ?_, fun hLp => ?_, hI.be.trans (hbe.mono hI.be.size)⟩
      · by_cases e : k = i
        · subst e
          obtain rfl : ok = o := Option.some.inj (hok.symm.trans ho)
          rw [hdst, Act.put_here hszA d v, ← hdst, ← hput]
          exact (detA_far hd hA hin hok hdst n hin (Nat.le_refl _)).symm
        · simp only [hsetL, if_neg e] at hL
          rw [Act.put_at _ _ _ _ (hd i k o ok d hin hk ho hok hdst e)]
          exact hI.on k ok d hk hL hkp hok hdst
      · have hne : o.dst ≠ some t := ht i o hin (by simp only [hsetL, if_true]) ho
        rw [Act.put_at _ _ _ _ hne]
        exact hI.off t (fun k ok hk hL hok => ht k ok hk (by simp only [hsetL]; split; rfl; exact hL) hok)
      · simp only [hsetL, if_neg (fun e : p = i => eip e.symm)] at hLp
        obtain ⟨l1, l2, l3⟩ := hI.lay hLp
        obtain ⟨op, _, hop, _⟩ := hA p hpn
        refine ⟨?_, (hbe.block _ (Array.getElem?_eq_some_iff.1 l2).1).trans l2, l3⟩
        rw [Act.put_at _ _ _ _ (hd i p o op dp hin hpn ho hop (hpd op hop) (fun e => eip e.symm))]
        exact l1
end
theorem regDetA_any {l : List Oper} {a : Act} {w : World} (n p dp : Nat) (fr : List Nat) (S : World → Prop) (ob : Obj) (sl : Nat → Value) (hB : detAB l.toArray n p dp fr = true)
    (hQ : ∀ c a (d : Option Tmp) v w, Q (.panic c) (Act.put a d v) w → Q (.panic c) a w) (hS : S w) (hSA : ∀ w o, S w → S (w.alloc o)) (h : wpDetA P l.toArray S p ob sl fr (fun a => ∀ b w', S w' → w'.heap[b]? = some ob → w.heap.size ≤ b → Below w.heap.size w w' → wpList P l.toArray Q (l.drop n) (a.put (some dp) (sl b)) w') n 0 a) : wpAny P .any l.toArray Q l.toArray.size (Array.replicate l.toArray.size false) a w := by
  simp only [detAB, detC, Bool.and_eq_true, decide_eq_true_eq, Bool.not_eq_true'] at hB
  obtain ⟨⟨⟨⟨⟨⟨⟨⟨⟨⟨hsel, hn⟩, hs⟩, hc⟩, hq⟩, hall⟩, hfr⟩, hpf⟩, hpn⟩, hpd⟩, hnl⟩ := hB
  obtain ⟨A, hA0, hA, hF⟩ := wpDetA_path n 0 a h
  rw [Nat.zero_add] at hF
  have hchk : ∀ i oi, i < n → l.toArray[i]? = some oi → (∀ e ∈ oi.after, Region.binds .any e = true → e.on < i) ∧ ∀ k ok d, k < n → l.toArray[k]? = some ok → ok.dst = some d → (k ≠ i → oi.dst ≠ some d) ∧ (d ∈ oi.looksAt l.toArray → Region.waitsFor .any l.toArray i k = true) := fun i oi hi ho => by
    have h1 := List.all_eq_true.1 hall i (List.mem_range.2 hi)
    rw [ho] at h1
    simp only [Bool.and_eq_true] at h1
    refine ⟨fun e he hb => ?_, fun k ok d hk hok hdst => ?_⟩
    · have h2 := Array.all_eq_true_iff_forall_mem.1 h1.1 e he
      rw [hb] at h2
      simpa using h2
    · have h2 := List.all_eq_true.1 h1.2 k (List.mem_range.2 hk)
      rw [hok] at h2
      simp only [hdst, Bool.and_eq_true] at h2
      refine ⟨fun hne => ?_, fun hm => ?_⟩
      · have h3 := h2.1
        simpa [hne] using h3
      · have h3 := h2.2
        simpa [hm] using h3
  have inv0 : HeadInv .any l.toArray n (Array.replicate l.toArray.size false) :=
    ⟨by simp, fun j oj _ hl => (by rw [getD_replicate_false] at hl; cases hl), fun t _ ht => getD_in (by simpa using ht) (getD_replicate_false _ _)⟩
  have hno : ∀ i, i < n → (Array.replicate l.toArray.size false).getD i true = false := fun i hi => getD_in (by simp at hn ⊢; omega) (getD_replicate_false _ _)
  have := detA_sound (P := P) (Q := Q) (S := S) (A := A) (n := n) (p := p) (dp := dp) (ob := ob) (sl := sl) (fr := fr) (w0 := w) (ops := l.toArray) (fun i hi => by have := hA i (Nat.zero_le _) (by omega); exact this)
    (fun i k oi ok d hi hk ho hok hdst hne => ((hchk i oi hi ho).2 k ok d hk hok hdst).1 hne) (fun i k oi ok d hi hk ho hok hdst hm => ((hchk i oi hi ho).2 k ok d hk hok hdst).2 hm)
    (fun i oi hi ho => (hchk i oi hi ho).1) (fun o ho => by rw [ho] at hpd; simpa using hpd) hpn (fun i oi hi ho => by
      have := List.all_eq_true.1 hnl i (List.mem_range.2 hi)
      rw [ho] at this
      simpa using this) hSA hsel hs hc hn hQ (fun i hi => List.all_eq_true.1 hfr i (by simpa using hi)) hpf (fun b w' hSw hw hb hbe => by
      have h1 := wpAnyG_seq (P := P) (Q := Q) (S := fun _ => True) (md := .any) (fr := []) (l.drop n) n (fullL l.toArray.size n) ((A n).put (some dp) (sl b)) w' (Nat.le_refl _) (fun j => by simp [List.getElem?_drop]) (by simpa using hq) (hF b w' hSw hw hb hbe)
      have h2 := wpAny_of_G _ _ _ _ h1
      rw [show (l.drop n).length = l.toArray.size - n by simp] at h2
      exact h2)
    n (List.range n) _ 0 (A 0) w (by simp) inv0 List.nodup_range (fun i => by
      rw [List.mem_range]
      exact ⟨fun hi => ⟨hi, hno i hi⟩, fun h => h.1⟩) ⟨rfl, rfl, fun k o d hk hL => (by rw [hno k hk] at hL; cases hL), fun _ _ => rfl, fun hL => (by rw [hno p hpn] at hL; cases hL), Below.refl _ _⟩ hS
  rw [hA0, show n + (l.toArray.size - n) = l.toArray.size by omega] at this
  exact this
theorem wp_region_detA {id : Nat} {a : Act} {w : World} {l : List Oper} (n p dp : Nat) (fr : List Nat) (S : World → Prop) (ob : Obj) (sl : Nat → Value) (hm : P.follows .mixedOrders = true) (hB : detAB l.toArray n p dp fr = true)
    (hQ : ∀ c a (d : Option Tmp) v w, Q (.panic c) (Act.put a d v) w → Q (.panic c) a w) (hS : S w.drew) (hSA : ∀ w o, S w → S (w.alloc o)) (h : wpDetA P l.toArray S p ob sl fr (fun a => ∀ b w', S w' → w'.heap[b]? = some ob → w.drew.heap.size ≤ b → Below w.drew.heap.size w.drew w' → wpList P l.toArray Q (l.drop n) (a.put (some dp) (sl b)) w') n 0 a) : (Code.region id l.toArray true).wp P Q a w :=
  wp_region_any hm (regDetA_any n p dp fr S ob sl hB hQ hS hSA h)
/-! ### the steps -/
variable {F : Act → Prop}
theorem wpDetA_take {m k : Nat} {o : Oper} {v : Value} {a : Act} (hk : (decide (k = p) || fr.contains k) = false) (ho : ops[k]? = some o) (hw : Region.wanted o (yielded ops a.tmps) = true)
    (hy : ∀ w, S w → (execOp a.eval o).run P w = .ok (.value v) w) (h : wpDetA P ops S p ob sl fr F m (k + 1) (a.put o.dst v)) : wpDetA P ops S p ob sl fr F (m + 1) k a := by
  simp only [Bool.or_eq_false_iff, decide_eq_false_iff_not] at hk
  exact ⟨o, v, ho, by unfold stepA; rw [if_neg hk.1]; exact ⟨.inl ⟨hw, fun w hS => by unfold Oper.wp; rw [hy w hS]; exact ⟨rfl, hS, Below.refl _ _⟩⟩, fun h => by rw [hk.2] at h; cases h⟩, h⟩
theorem wpDetA_free {m k : Nat} {o : Oper} {v : Value} {a : Act} (hk : k ≠ p) (ho : ops[k]? = some o) (hw : Region.wanted o (yielded ops a.tmps) = true)
    (hy : ∀ w, (execOp a.eval o).run P w = .ok (.value v) w) (h : wpDetA P ops S p ob sl fr F m (k + 1) (a.put o.dst v)) : wpDetA P ops S p ob sl fr F (m + 1) k a :=
  ⟨o, v, ho, by unfold stepA; rw [if_neg hk]; exact ⟨.inl ⟨hw, fun w hS => by unfold Oper.wp; rw [hy w]; exact ⟨rfl, hS, Below.refl _ _⟩⟩, fun _ => .inl ⟨hw, hy⟩⟩, h⟩
theorem wpDetA_skip {m k : Nat} {o : Oper} {a : Act} (hk : k ≠ p) (ho : ops[k]? = some o) (hw : Region.wanted o (yielded ops a.tmps) = false)
    (h : wpDetA P ops S p ob sl fr F m (k + 1) (a.put o.dst undef)) : wpDetA P ops S p ob sl fr F (m + 1) k a :=
  ⟨o, undef, ho, by unfold stepA; rw [if_neg hk]; exact ⟨.inr ⟨hw, rfl⟩, fun _ => .inr ⟨hw, rfl⟩⟩, h⟩
theorem wpDetA_call {m k : Nat} {o : Oper} {v : Value} {a : Act} (hk : (decide (k = p) || fr.contains k) = false) (ho : ops[k]? = some o) (hw : Region.wanted o (yielded ops a.tmps) = true)
    (hy : ∀ w, S w → ∀ K : Act → World → Prop, (∀ w', S w' → Below w.heap.size w w' → K (a.put o.dst v) w') → o.wp P a w K NoP) (h : wpDetA P ops S p ob sl fr F m (k + 1) (a.put o.dst v)) : wpDetA P ops S p ob sl fr F (m + 1) k a := by
  simp only [Bool.or_eq_false_iff, decide_eq_false_iff_not] at hk
  exact ⟨o, v, ho, by unfold stepA; rw [if_neg hk.1]; exact ⟨.inl ⟨hw, fun w hS => hy w hS _ (fun _ hS' hbe => ⟨rfl, hS', hbe⟩)⟩, fun h => by rw [hk.2] at h; cases h⟩, h⟩
theorem wpDetA_lay {m : Nat} {o : Oper} {a : Act} (ho : ops[p]? = some o) (hg : o.guard = none) (hy : ∀ (a : Act) (w : World), (execOp a.eval o).run P w = .ok (.value (sl w.heap.size)) (w.alloc ob))
    (h : wpDetA P ops S p ob sl fr F m (p + 1) (a.put o.dst undef)) : wpDetA P ops S p ob sl fr F (m + 1) p a :=
  ⟨o, undef, ho, by unfold stepA; rw [if_pos rfl]; exact ⟨⟨hg, hy⟩, rfl⟩, h⟩
theorem wpDetA_done {k : Nat} {a : Act} (h : F a) : wpDetA P ops S p ob sl fr F 0 k a := h
end
end Fk

set_option linter.unusedSimpArgs false
set_option linter.unusedVariables false
namespace Go.Proofs.YthboebhghaabnaaGreatDoor
open Go.RowKit Fk Sha
/-! The reference's numerals. -/
abbrev ownR (b : Nat) (w : World) (v : Value) (l : List B) : Prop := w.ownsRow b 5 1 v l.length (l.map bv)
theorem own_oneB (W : World) (c : B) (z : Value) (hz : z = bv c) : ownR W.heap.size (W.alloc (.cells #[z] 5)) (.slice (some ⟨W.heap.size, 0, none⟩) 1 1) [c] :=
  ⟨rfl, .inr ⟨W.heap.size, 1, #[z], rfl, Nat.le_refl _, Row.new W _ [z], Nat.le_refl _, by unfold maxLen; omega, rfl, by rw [hz]; rfl⟩⟩
theorem ownR.lower {b b' : Nat} {w : World} {v : Value} {l : List B} (h : ownR b w v l) (hb : b' ≤ b) : ownR b' w v l :=
  ⟨h.1, h.2.imp id (fun ⟨g, cap, cur, e, hg, r⟩ => ⟨g, cap, cur, e, Nat.le_trans hb hg, r⟩)⟩
theorem ownR.below {b : Nat} {w w' : World} {v : Value} {l : List B} (h : ownR b w v l) (hb : Below w.heap.size w w') : ownR b w' v l := World.ownsRow.kept h (grown_below' hb none) (Classical.em _)
theorem ownR.of {b : Nat} {w : World} {v : Value} {l l' : List B} {n : Nat} (h : w.ownsRow b 5 1 v n (l.map bv)) (hl : l = l') (hn : n = l'.length) : ownR b w v l' := by
  subst hl hn; exact h
set_option maxRecDepth 100000 in
set_option maxHeartbeats 2000000 in
theorem refunsigned_any (n : Int) (h1 : -9223372036854775808 ≤ n) (h2 : n ≤ 9223372036854775807) (w : World) :
    Calls Tryz.prog 108 #[.int .i64 n] w fun e w' => e = .returned (.int .u64 ((zz n : Nat) : Int)) ∧ w' = w := by
  unfold zz
  by_cases h0 : 0 ≤ n
  · rw [if_pos h0]
    obtain ⟨m, rfl⟩ : ∃ m : Nat, n = (m : Int) := ⟨n.toNat, by omega⟩
    have hd : decide ((m : Int) ≥ 0) = true := decide_eq_true (by omega)
    have hm : (m : Int) % 18446744073709551616 = m := by omega
    have hm2 : 2 * (m : Int) % 18446744073709551616 = ((2 * m : Nat) : Int) := by omega
    go_enter Tryz.func108, Tryz.ntmps108
    go_wp2_with fail
    go_ret
    exact ⟨congrArg (fun x => Ending.returned (.int .u64 x)) (by omega), rfl⟩
  · rw [if_neg h0]
    have hd : decide (n ≥ 0) = false := decide_eq_false (by omega)
    obtain ⟨m, hmn⟩ : ∃ m : Nat, -(n + 1) = (m : Int) := ⟨(-(n + 1)).toNat, by omega⟩
    have hm : (m : Int) % 18446744073709551616 = m := by omega
    have hm2 : 2 * (m : Int) % 18446744073709551616 = 2 * m := by omega
    have hm3 : (2 * (m : Int) + 1) % 18446744073709551616 = 2 * m + 1 := by omega
    go_enter Tryz.func108, Tryz.ntmps108
    go_wp2_with fail
    go_ret
    exact ⟨congrArg (fun x => Ending.returned (.int .u64 x)) (by omega), rfl⟩
set_option maxRecDepth 100000 in
set_option maxHeartbeats 2000000 in
theorem refnumeral_any (u : Nat) : u < 18446744073709551616 → ∀ (w : World),
    Calls Tryz.prog 107 #[.int .u64 (u : Int)] w fun e w' => ∃ v, e = .returned v ∧ ownR w.heap.size w' v (numeral u) ∧ Below w.heap.size w w' := by
  induction u using Nat.strongRecOn with
  | _ u ih =>
  intro hu w
  by_cases hlt : u < 128
  · have hd : decide ((u : Int) < 128) = true := decide_eq_true (by omega)
    have hnu := numeral_small hlt
    have HN := Lib.hid hnu
    have HL := Lib.hid hlt
    clear ih hnu
    go_enter Tryz.func107, Tryz.ntmps107
    go_wp2_with fail
    go_ret
    refine ⟨_, rfl, ?_, (Below.refl _ _).alloc (Nat.le_refl _) _⟩
    rw [HN.out]
    exact own_oneB w _ _ (congrArg (Value.int .u8) (by first | exact byte_small HL.out | (rw [ofNat_bn]; omega)))
  · have hd : decide ((u : Int) < 128) = false := decide_eq_false (by omega)
    have hnu := numeral_big hlt
    have hle : (numeral u).length ≤ 10 := numeral_length 9 u (by omega)
    rw [hnu, List.length_cons] at hle
    have hih := fun w => ih (u / 128) (by omega) (by omega) w
    rw [show ((u / 128 : Nat) : Int) = (u : Int) / 128 by omega] at hih
    have HI := Lib.hid hih
    have HN := Lib.hid hnu
    obtain ⟨R, hR⟩ : ∃ R, numeral (u / 128) = R := ⟨_, rfl⟩
    rw [hR] at hle
    have HR := Lib.hid hR
    obtain ⟨c, hc⟩ : ∃ c, BitVec.ofNat 8 (u % 128 + 128) = c := ⟨_, rfl⟩
    have hcv : ((u : Int) % 128 + 128) % 256 = bn c := by rw [← hc, ofNat_bn]; omega
    have hcv2 : (u : Int) % 128 + 128 = bn c := by rw [← hc, ofNat_bn]; omega
    have HC := Lib.hid hc
    clear ih hih hnu hR hc
    have hB0 := below_alloc' w (.cells #[.int .u8 (bn c)] 5)
    have ho := own_oneB w c _ rfl
    have HO := Lib.hid ho
    have hz : w.heap.size ≤ (w.alloc (.cells #[.int .u8 (bn c)] 5)).heap.size := by simp
    clear ho
    go_enter Tryz.func107, Tryz.ntmps107
    go_wp2_with (first
      | (go_at_call 107; (with_reducible refine (HI.out _).mono ?_); rintro e w1 ⟨v1, rfl, ho1, hb1⟩; rw [HR.out] at ho1; have hob := own_slB ho1 rfl (by omega); have HO1 := Lib.hid (ownR.below HO.out hb1); have HB1 := Lib.hid (hB0.trans (hb1.mono hz)); have HOB := Lib.hid hob; clear ho1 hob hb1)
      | (at_builtin; refine wpList_app rfl _ _ rfl w.heap.size _ 1 [c] rfl HO1.out _ rfl R _ HOB.out.1 HOB.out.2 (by omega) HB1.out.size ?_; intro v2 w2 ho2 hg2))
    go_ret
    refine ⟨_, rfl, ownR.of ho2 (by rw [HN.out, HR.out, HC.out]; rfl) (by rw [HN.out, HR.out, List.length_cons]; omega), HB1.out.grown hg2 HB1.out.size (fun r e => (HO1.out.lt r e).1)⟩
end Go.Proofs.YthboebhghaabnaaGreatDoor

set_option linter.unusedSimpArgs false
set_option linter.unusedVariables false
namespace Go.Proofs.YthboebhghaabnaaGreatDoor
open Go.RowKit Fk Sha
/-! The reference of the encoding: one integer, one text. -/
set_option maxRecDepth 100000 in
set_option maxHeartbeats 2000000 in
theorem refformed_vt (t : Vt) (ht : t.ok) (w : World) :
    Calls Tryz.prog 105 #[t.val] w fun e w' => e = .returned (.bool true) ∧ Below w.heap.size w w' := by
  cases t with
  | int n =>
    clear ht
    unfold Vt.val
    go_enter Tryz.func105, Tryz.ntmps105
    go_wp2_with fail
    go_ret
    exact ⟨rfl, (Below.refl _ _).alloc (Nat.le_refl _) _⟩
  | text s =>
    clear ht
    unfold Vt.val
    go_enter Tryz.func105, Tryz.ntmps105
    go_wp2_with fail
    go_ret
    exact ⟨rfl, (Below.refl _ _).alloc (Nat.le_refl _) _⟩
set_option maxRecDepth 100000 in
set_option maxHeartbeats 2000000 in
theorem refdepth_vt (t : Vt) (ht : t.ok) (w : World) :
    Calls Tryz.prog 106 #[t.val] w fun e w' => e = .returned (.int .i64 0) ∧ Below w.heap.size w w' := by
  cases t with
  | int n =>
    clear ht
    unfold Vt.val
    go_enter Tryz.func106, Tryz.ntmps106
    go_wp2_with fail
    go_ret
    exact ⟨rfl, (Below.refl _ _).alloc (Nat.le_refl _) _⟩
  | text s =>
    clear ht
    unfold Vt.val
    go_enter Tryz.func106, Tryz.ntmps106
    go_wp2_with fail
    go_ret
    exact ⟨rfl, (Below.refl _ _).alloc (Nat.le_refl _) _⟩
set_option maxRecDepth 100000 in
set_option maxHeartbeats 2000000 in
theorem refformed_list (l : List Vt) (A : Option Addr) (c : Nat) (w : World) (h : SlT w w.heap.size (.slice A l.length c) l) (hok : okT l) :
    Calls Tryz.prog 105 #[listV A l.length c] w fun e w' => e = .returned (.bool true) ∧ Below w.heap.size w w' := by
  have HS := Lib.hid h
  have HK := Lib.hid hok
  have hl := h.1
  clear h hok
  have r0 := Row.new w 101 [.int .i64 3, .int .i64 0, .string ⟨#[]⟩, .slice A l.length c]
  have hB0 := below_alloc' w (.cells #[.int .i64 3, .int .i64 0, .string ⟨#[]⟩, .slice A l.length c] 101)
  go_enter Tryz.func105, Tryz.ntmps105
  go_wp2_with fail
  go_loopg [3] l.length (fun g iv wr => Row wr w.heap.size 101 [.int .i64 3, .int .i64 0, .string ⟨#[]⟩, .slice A l.length c] ∧ Below w.heap.size w wr ∧ ∃ k : Nat, iv = .int .i64 k ∧ k + g = l.length)
  case atStart => exact ⟨r0, hB0, 0, rfl, by omega⟩
  case round =>
    clear r0 hB0
    obtain ⟨hrow, hBr, k, rfl, hkg⟩ := hrel
    have hzr := hBr.size
    obtain ⟨k0, k1, k2, k3⟩ := st4 hrow
    have hzz := hrow.lt
    by_cases hlt : k < l.length
    · obtain ⟨b, o, c', hv, hb, d0, d1, d2, d3⟩ := SlT.get (HS.out.below hBr) hlt
      cases hv
      have s1 : (0 : Int) ≤ k := by omega
      have s2 : (k : Int) < l.length := by omega
      have hbz : b < wr.heap.size := by omega
      have hkk := HK.out k hlt
      obtain ⟨x, hx⟩ : ∃ x, l.getD k default = x := ⟨_, rfl⟩
      rw [hx] at d0 d1 d2 d3 hkk
      clear hx
      cases x with
      | int n =>
        replace d0 : wr.cell? ⟨b, o + k * 4, none⟩ = some (.int .i64 1) := d0
        replace d1 : wr.cell? ⟨b, o + k * 4 + 1, none⟩ = some (.int .i64 n) := d1
        replace d2 : wr.cell? ⟨b, o + k * 4 + 2, none⟩ = some (.string ⟨#[]⟩) := d2
        replace d3 : wr.cell? ⟨b, o + k * 4 + 3, none⟩ = some (.slice none 0 0) := d3
        have hft := fun w => refformed_vt (.int n) hkk w
        unfold Vt.val at hft
        have HFT := Lib.hid hft
        clear hft hkk
        go_wp2_with (go_at_call 105; (with_reducible refine (HFT.out _).mono ?_); rintro e wn ⟨rfl, hn⟩)
        go_roundg (gk - 1)
        case measure => omega
        case rel => exact ⟨hrow.below hn hzz, hBr.trans (hn.mono hzr), k + 1, by first | rfl | go_num, by omega⟩
      | text s =>
        replace d0 : wr.cell? ⟨b, o + k * 4, none⟩ = some (.int .i64 2) := d0
        replace d1 : wr.cell? ⟨b, o + k * 4 + 1, none⟩ = some (.int .i64 0) := d1
        replace d2 : wr.cell? ⟨b, o + k * 4 + 2, none⟩ = some (.string s) := d2
        replace d3 : wr.cell? ⟨b, o + k * 4 + 3, none⟩ = some (.slice none 0 0) := d3
        have hft := fun w => refformed_vt (.text s) hkk w
        unfold Vt.val at hft
        have HFT := Lib.hid hft
        clear hft hkk
        go_wp2_with (go_at_call 105; (with_reducible refine (HFT.out _).mono ?_); rintro e wn ⟨rfl, hn⟩)
        go_roundg (gk - 1)
        case measure => omega
        case rel => exact ⟨hrow.below hn hzz, hBr.trans (hn.mono hzr), k + 1, by first | rfl | go_num, by omega⟩
    · obtain rfl : k = l.length := by omega
      go_wp2_with fail
      go_ret
      exact ⟨rfl, hBr⟩
set_option maxRecDepth 100000 in
set_option maxHeartbeats 2000000 in
theorem refdepth_list (l : List Vt) (A : Option Addr) (c : Nat) (w : World) (h : SlT w w.heap.size (.slice A l.length c) l) (hok : okT l) :
    Calls Tryz.prog 106 #[listV A l.length c] w fun e w' => e = .returned (.int .i64 1) ∧ Below w.heap.size w w' := by
  have HS := Lib.hid h
  have HK := Lib.hid hok
  have hl := h.1
  clear h hok
  have r0 := Row.new w 101 [.int .i64 3, .int .i64 0, .string ⟨#[]⟩, .slice A l.length c]
  have hB0 := below_alloc' w (.cells #[.int .i64 3, .int .i64 0, .string ⟨#[]⟩, .slice A l.length c] 101)
  go_enter Tryz.func106, Tryz.ntmps106
  go_wp2_with fail
  go_loopg [3, 4] l.length (fun g nv iv wr => nv = .int .i64 0 ∧ Row wr w.heap.size 101 [.int .i64 3, .int .i64 0, .string ⟨#[]⟩, .slice A l.length c] ∧ Below w.heap.size w wr ∧ ∃ k : Nat, iv = .int .i64 k ∧ k + g = l.length)
  case atStart => exact ⟨rfl, r0, hB0, 0, rfl, by omega⟩
  case round =>
    clear r0 hB0
    obtain ⟨rfl, hrow, hBr, k, rfl, hkg⟩ := hrel
    have hzr := hBr.size
    obtain ⟨k0, k1, k2, k3⟩ := st4 hrow
    have hzz := hrow.lt
    by_cases hlt : k < l.length
    · obtain ⟨b, o, c', hv, hb, d0, d1, d2, d3⟩ := SlT.get (HS.out.below hBr) hlt
      cases hv
      have s1 : (0 : Int) ≤ k := by omega
      have s2 : (k : Int) < l.length := by omega
      have hbz : b < wr.heap.size := by omega
      have hkk := HK.out k hlt
      obtain ⟨x, hx⟩ : ∃ x, l.getD k default = x := ⟨_, rfl⟩
      rw [hx] at d0 d1 d2 d3 hkk
      clear hx
      cases x with
      | int n =>
        replace d0 : wr.cell? ⟨b, o + k * 4, none⟩ = some (.int .i64 1) := d0
        replace d1 : wr.cell? ⟨b, o + k * 4 + 1, none⟩ = some (.int .i64 n) := d1
        replace d2 : wr.cell? ⟨b, o + k * 4 + 2, none⟩ = some (.string ⟨#[]⟩) := d2
        replace d3 : wr.cell? ⟨b, o + k * 4 + 3, none⟩ = some (.slice none 0 0) := d3
        have hft := fun w => refdepth_vt (.int n) hkk w
        unfold Vt.val at hft
        have HFT := Lib.hid hft
        clear hft hkk
        go_wp2_with (go_at_call 106; (with_reducible refine (HFT.out _).mono ?_); rintro e wn ⟨rfl, hn⟩)
        go_roundg (gk - 1)
        case measure => omega
        case rel => exact ⟨by first | rfl | go_num, hrow.below hn hzz, hBr.trans (hn.mono hzr), k + 1, by first | rfl | go_num, by omega⟩
      | text s =>
        replace d0 : wr.cell? ⟨b, o + k * 4, none⟩ = some (.int .i64 2) := d0
        replace d1 : wr.cell? ⟨b, o + k * 4 + 1, none⟩ = some (.int .i64 0) := d1
        replace d2 : wr.cell? ⟨b, o + k * 4 + 2, none⟩ = some (.string s) := d2
        replace d3 : wr.cell? ⟨b, o + k * 4 + 3, none⟩ = some (.slice none 0 0) := d3
        have hft := fun w => refdepth_vt (.text s) hkk w
        unfold Vt.val at hft
        have HFT := Lib.hid hft
        clear hft hkk
        go_wp2_with (go_at_call 106; (with_reducible refine (HFT.out _).mono ?_); rintro e wn ⟨rfl, hn⟩)
        go_roundg (gk - 1)
        case measure => omega
        case rel => exact ⟨by first | rfl | go_num, hrow.below hn hzz, hBr.trans (hn.mono hzr), k + 1, by first | rfl | go_num, by omega⟩
    · obtain rfl : k = l.length := by omega
      go_wp2_with fail
      go_ret
      exact ⟨by first | rfl | go_num, hBr⟩
set_option maxRecDepth 100000 in
set_option maxHeartbeats 2000000 in
theorem refcheck_list (l : List Vt) (A : Option Addr) (c : Nat) (w : World) (h : SlT w w.heap.size (.slice A l.length c) l) (hok : okT l) :
    Calls Tryz.prog 97 #[listV A l.length c] w fun e w' => e = .returned (.int .i64 0) ∧ Below w.heap.size w w' := by
  have HS := Lib.hid h
  have HK := Lib.hid hok
  clear h hok
  have r0 := Row.new w 101 [.int .i64 3, .int .i64 0, .string ⟨#[]⟩, .slice A l.length c]
  have hB0 := below_alloc' w (.cells #[.int .i64 3, .int .i64 0, .string ⟨#[]⟩, .slice A l.length c] 101)
  have hf := fun W (h : Below w.heap.size w W) => refformed_list l A c W ((HS.out.below h).mono h.size) HK.out
  have hd := fun W (h : Below w.heap.size w W) => refdepth_list l A c W ((HS.out.below h).mono h.size) HK.out
  have HF := Lib.hid hf
  have HD := Lib.hid hd
  clear hf hd
  go_enter Tryz.func97, Tryz.ntmps97
  obtain ⟨W, hW⟩ : ∃ W, w.alloc (.cells #[.int .i64 3, .int .i64 0, .string ⟨#[]⟩, .slice A l.length c] 101) = W := ⟨_, rfl⟩
  replace r0 : Row W w.heap.size 101 [.int .i64 3, .int .i64 0, .string ⟨#[]⟩, .slice A l.length c] := hW ▸ r0
  rw [hW] at hB0
  have hz := r0.lt
  go_upto_region 1 with fail
  clear hW
  obtain ⟨k0, k1, k2, k3⟩ := st4 r0
  go_wp2_with (first
    | (go_at_call 105; (with_reducible refine (HF.out _ hB0).mono ?_); rintro e w1 ⟨rfl, hb⟩; replace r0 := r0.below hb hz; replace hB0 := hB0.trans (hb.mono hB0.size); replace hz := r0.lt; clear k0 k1 k2 k3; obtain ⟨k0, k1, k2, k3⟩ := st4 r0)
    | (go_at_call 106; (with_reducible refine (HD.out _ hB0).mono ?_); rintro e w2 ⟨rfl, hb2⟩))
  go_ret
  exact ⟨rfl, hB0.trans (hb2.mono hB0.size)⟩
end Go.Proofs.YthboebhghaabnaaGreatDoor

set_option linter.unusedSimpArgs false
set_option linter.unusedVariables false
namespace Go.Proofs.YthboebhghaabnaaGreatDoor
open Go.RowKit Fk Sha
/-! The reference of the encoding: encode, Encode. -/
set_option maxRecDepth 100000 in
set_option maxHeartbeats 4000000 in
theorem refencode_int (n : Int) (h1 : -9223372036854775808 ≤ n) (h2 : n ≤ 9223372036854775807) (w : World) :
    Calls Tryz.prog 98 #[intV n] w fun e w' => ∃ v, e = .returned v ∧ ownR w.heap.size w' v (bytesVt (.int n)) ∧ Below w.heap.size w w' := by
  have hu := fun w => refunsigned_any n h1 h2 w
  have hnm := fun w => refnumeral_any (zz n) (zz_lt h1 h2) w
  have hle : (numeral (zz n)).length ≤ 10 := numeral_length 9 (zz n) (by have := zz_lt h1 h2; omega)
  have hen : bytesVt (.int n) = 1#8 :: numeral (zz n) := rfl
  obtain ⟨m, hm⟩ : ∃ m, zz n = m := ⟨_, rfl⟩
  rw [hm] at hu hnm hle hen
  obtain ⟨R, hR⟩ : ∃ R, numeral m = R := ⟨_, rfl⟩
  rw [hR] at hnm hle hen
  have HU := Lib.hid hu
  have HM := Lib.hid hnm
  have HE := Lib.hid hen
  have hBb := below_alloc' w (.cells #[.int .i64 1, .int .i64 n, .string ⟨#[]⟩, .slice none 0 0] 101)
  have hB0 := hBb.alloc hBb.size (.cells #[.int .u8 1] 5)
  have ho := own_oneB (w.alloc (.cells #[.int .i64 1, .int .i64 n, .string ⟨#[]⟩, .slice none 0 0] 101)) 1#8 (.int .u8 1) rfl
  have hz : w.heap.size + 1 ≤ ((w.alloc (.cells #[.int .i64 1, .int .i64 n, .string ⟨#[]⟩, .slice none 0 0] 101)).alloc (.cells #[.int .u8 1] 5)).heap.size := by simp
  rw [show (w.alloc (.cells #[.int .i64 1, .int .i64 n, .string ⟨#[]⟩, .slice none 0 0] 101)).heap.size = w.heap.size + 1 by simp] at ho
  have HO := Lib.hid ho
  clear hu hnm hen hR hm ho hBb h1 h2
  go_enter Tryz.func98, Tryz.ntmps98
  go_wp2_with (first
    | (go_at_call 108; (with_reducible refine (HU.out _).mono ?_); rintro e w1 ⟨rfl, rfl⟩)
    | (go_at_call 107; (with_reducible refine (HM.out _).mono ?_); rintro e w1 ⟨v1, rfl, ho1, hb1⟩; have hob := own_slB ho1 rfl (by omega); have HO1 := Lib.hid (ownR.below HO.out hb1); have HB1 := Lib.hid (hB0.trans (hb1.mono hB0.size)); have hz1 := Nat.le_trans hz hb1.size; have HOB := Lib.hid hob; clear ho1 hob hb1)
    | (at_builtin; refine wpList_app rfl _ _ rfl (w.heap.size + 1) _ 1 [1#8] rfl HO1.out _ rfl R _ HOB.out.1 HOB.out.2 (by omega) hz1 ?_; intro v2 w2 ho2 hg2))
  go_ret
  refine ⟨_, rfl, ?_, HB1.out.grown hg2 HB1.out.size (fun r e => by have := (HO1.out.lt r e).1; omega)⟩
  rw [HE.out]
  exact ownR.lower (ownR.of ho2 rfl (by rw [List.length_cons]; omega)) (by omega)
theorem strCells_bv (l : List B) (s : ByteArray) : l.map bv ++ Lib.strCells s = (l ++ s.data.toList.map fun c => BitVec.ofNat 8 c.toNat).map bv := by
  rw [List.map_append, List.map_map]
  congr 1
  unfold Lib.strCells
  refine List.map_congr_left fun c _ => ?_
  have hc := c.toNat_lt
  show Value.int .u8 (c.toNat : Int) = bv (BitVec.ofNat 8 c.toNat)
  unfold bv
  rw [ofNat_bn, Nat.mod_eq_of_lt (by omega)]
theorem wp_app1 {w : World} {o : Oper} {a : Act} {K : Act → World → Prop} {Q : Exit → Act → World → Prop} (s x : Operand)
    (ho : o.op = .call { callee := .builtin .append, args := #[s, x], argTypes := #[102, 102] })
    (base : Nat) (v : Value) (n : Nat) (xs : List B) (hs : a.eval s = v) (hown : w.ownsRow base 5 1 v n (xs.map bv))
    (vx : Value) (hx : a.eval x = vx) (l : List B) (B0 : Nat) (hl : SlB w B0 vx l) (hpos : 0 < l.length) (hsum : n + l.length ≤ 140737488355328) (hbase : base ≤ w.heap.size)
    (h : ∀ v' w', w'.ownsRow base 5 1 v' (n + l.length) ((xs ++ l).map bv) → w.grownBy w' v.ownBlock → K (a.put o.dst v') w') : o.wp Tryz.prog a w K Q := by
  obtain ⟨i0, hi, hz0, hz1, hz2⟩ := info_parts infoB
  obtain ⟨_, A, c, rfl, hE⟩ := hl
  obtain ⟨b, off, rfl, _, hE⟩ := hE hpos
  have hnews : ∀ j u, (l.map bv)[j]? = some u → w.cell? ((⟨b, off, none⟩ : Addr).add j) = some u := by
    intro j u hj
    rw [List.getElem?_map] at hj
    obtain ⟨y, hy, rfl⟩ := Option.map_eq_some_iff.1 hj
    have hjl := (List.getElem?_eq_some_iff.1 hy).1
    rw [addr_add0, CellsG.byte hE hjl, List.getD_eq_getElem?_getD, hy]; rfl
  refine wp_append_own w s x _ ho base 5 i0 (.int .u8 0) 1 1 Tryz.underlying102 hi hz0 hz1 hz2 rfl (by decide) v n (xs.map bv) hs hown _ l.length c (l.map bv) hx (by simp) hnews
    (fun u hu => by obtain ⟨y, _, rfl⟩ := List.mem_map.1 hu; rfl) (by unfold maxLen; omega) (by omega) hbase ?_
  intro v' w' h1 h2 _
  exact h v' w' (by rw [List.map_append]; exact h1) h2
set_option maxRecDepth 100000 in
set_option maxHeartbeats 4000000 in
theorem refencode_text (s : ByteArray) (hs : s.size ≤ 1000) (w : World) :
    Calls Tryz.prog 98 #[.agg #[.int .i64 2, .int .i64 0, .string s, .slice none 0 0]] w fun e w' => ∃ v, e = .returned v ∧ ownR w.heap.size w' v (bytesVt (.text s)) ∧ Below w.heap.size w w' := by
  have hnm := fun w => refnumeral_any s.size (by omega) w
  have hle : (numeral s.size).length ≤ 10 := numeral_length 9 s.size (by omega)
  have hpos : 0 < (numeral s.size).length := by
    by_cases h : s.size < 128
    · rw [numeral_small h]; simp
    · rw [numeral_big h]; simp
  have hen : bytesVt (.text s) = 2#8 :: (numeral s.size ++ s.data.toList.map fun c => BitVec.ofNat 8 c.toNat) := rfl
  obtain ⟨R, hR⟩ : ∃ R, numeral s.size = R := ⟨_, rfl⟩
  rw [hR] at hnm hle hen hpos
  have hbl : (s.data.toList.map fun c => BitVec.ofNat 8 c.toNat).length = s.size := by rw [List.length_map]; rfl
  have HM := Lib.hid hnm
  have HE := Lib.hid hen
  have HBL := Lib.hid hbl
  have hB := below_alloc' w (.cells #[.int .i64 2, .int .i64 0, .string s, .slice none 0 0] 101)
  have hz : w.heap.size + 1 ≤ (w.alloc (.cells #[.int .i64 2, .int .i64 0, .string s, .slice none 0 0] 101)).heap.size := by simp
  have hc : (w.alloc (.cells #[.int .i64 2, .int .i64 0, .string s, .slice none 0 0] 101)).cell? ⟨w.heap.size, 2, none⟩ = some (.string s) := by simp
  have hm : (s.size : Int) % 18446744073709551616 = s.size := by omega
  clear hnm hen hR hbl
  go_enter Tryz.func98, Tryz.ntmps98
  go_upto_region 5 with fail
  generalize w.alloc (.cells #[.int .i64 2, .int .i64 0, .string s, .slice none 0 0] 101) = W at *
  refine wp_region_tree 9 (.take 1 (.take 2 (.take 3 (.take 4 (.take 7 (.take 8 (.two 0 (.one 5 (.one 6 .done)) 5 (.one 0 (.one 6 .done))))))))) (fun W' => W'.cell? ⟨w.heap.size, 2, none⟩ = some (.string s) ∧ Below w.heap.size w W' ∧ w.heap.size + 1 ≤ W'.heap.size) (by kernel_rfl) (by kernel_rfl) (fun _ _ d _ _ h => by cases d <;> exact h) ⟨hc, hB.drew, hz⟩ ?_
  replace hB : Below w.heap.size w W.drew := hB.drew
  replace hc : W.drew.cell? ⟨w.heap.size, 2, none⟩ = some (.string s) := hc
  replace hz : w.heap.size + 1 ≤ W.drew.heap.size := hz
  generalize W.drew = W1 at *
  iterate 3
    refine wpTree_take (v := ?_) rfl (by kernel_rfl) (fun w hSw => ?_) ?_
    rotate_left 1
    · have hcw := hSw.1
      go_simp
      with_reducible rfl
    simp only [Act.put, List.setIfInBounds_toArray, List.set_cons_zero, List.set_cons_succ]
  refine wpTree_take (v := .int .u64 (s.size : Int)) rfl (by kernel_rfl) (fun w hSw => ?_) ?_
  · go_simp
    rw [IntKind.wrap_u64]; omega
  simp only [Act.put, List.setIfInBounds_toArray, List.set_cons_zero, List.set_cons_succ]
  iterate 2
    refine wpTree_take (v := ?_) rfl (by kernel_rfl) (fun w hSw => ?_) ?_
    rotate_left 1
    · have hcw := hSw.1
      go_simp
      with_reducible rfl
    simp only [Act.put, List.setIfInBounds_toArray, List.set_cons_zero, List.set_cons_succ]
  have hlow : w.heap.size < w.heap.size + 1 := Nat.lt_succ_self _
  refine wpTree_two rfl rfl (fun K hK => ⟨by kernel_rfl, ?_⟩) (fun K hK => ⟨by kernel_rfl, ?_⟩)
  · go_simp
    have hB1 := hB.alloc hB.size (.cells #[.int .u8 2] 5)
    have hz1 : w.heap.size + 1 ≤ (W1.alloc (.cells #[.int .u8 2] 5)).heap.size := by simp; omega
    have hc1 : (W1.alloc (.cells #[.int .u8 2] 5)).cell? ⟨w.heap.size, 2, none⟩ = some (.string s) := (World.cell?_alloc_past _ _ _ (by first | omega | (simp only []; omega))).trans hc
    have ho := ownR.lower (own_oneB W1 2#8 (.int .u8 2) rfl) hz
    refine hK _ _ ⟨hc1, hB1, hz1⟩ ?_
    clear hK K
    try simp only [Act.put, List.setIfInBounds_toArray, List.set_cons_zero, List.set_cons_succ]
    refine wpTree_one rfl (fun K hK => ⟨by kernel_rfl, ?_⟩)
    go_simp
    go_at_call 107
    refine (HM.out _).mono ?_
    rintro e w1 ⟨v1, rfl, ho1, hb1⟩
    have ho' := ownR.below ho hb1
    have hb2 := hB1.trans (hb1.mono hB1.size)
    have hz2 := Nat.le_trans hz1 hb1.size
    have hob := own_slB ho1 rfl (by omega)
    refine hK _ _ ⟨(hb1.cell (by simp only []; omega)).trans hc1, hb2, hz2⟩ ?_
    clear hK K
    try simp only [Act.put, List.setIfInBounds_toArray, List.set_cons_zero, List.set_cons_succ]
    refine wpTree_one rfl (fun K hK => ⟨by kernel_rfl, ?_⟩)
    refine wp_app1 _ _ rfl (w.heap.size + 1) _ 1 [2#8] rfl ho' _ rfl R _ hob.1 hpos (by omega) hz2 ?_
    intro v2 w2 ho2 hg2
    have hcc : w1.cell? ⟨w.heap.size, 2, none⟩ = some (.string s) := (hb1.cell (by simp only []; omega)).trans hc1
    refine hK _ _ ⟨(hg2.cell_far _ (by simp only []; omega) (fun e => by have := (ho'.lt _ e.symm).1; simp only [] at this; omega)).trans hcc, hb2.grown hg2 hb2.size (fun r e => by have := (ho'.lt r e).1; omega), Nat.le_trans hz2 hg2.size⟩ ?_
    clear hK K
    try simp only [Act.put, List.setIfInBounds_toArray, List.set_cons_zero, List.set_cons_succ]
    replace hb2 := hb2.grown hg2 hb2.size (fun r e => by have := (ho'.lt r e).1; omega)
    replace hz2 := Nat.le_trans hz2 hg2.size
    refine wpTree_done ?_
    simp only [List.drop_succ_cons, List.drop_zero]
    obtain ⟨i0, hi, hy0, hy1, hy2⟩ := info_parts infoB
    have HO2 := Lib.hid ho2
    clear ho2 ho1 hob
    go_wp2_with (at_builtin; refine Lib.wpList_append_own_string _ rfl _ _ _ _ rfl (w.heap.size + 1) 5 i0 Tryz.underlying102 Tryz.underlying9 hi hy0 hy1 hy2 _ _ _ rfl HO2.out s rfl (by unfold maxLen; omega) (by omega) hz2 ?_; intro v3 w3 ho3 hg3 _)
    go_ret
    refine ⟨_, rfl, ?_, hb2.grown hg3 hb2.size (fun r e => by have := (HO2.out.lt r e).1; omega)⟩
    rw [HE.out]
    rw [strCells_bv] at ho3
    exact ownR.lower (ownR.of ho3 (by simp) (by rw [List.length_cons, List.length_append, HBL.out]; omega)) (Nat.le_succ _)
  · go_simp
    go_at_call 107
    refine (HM.out _).mono ?_
    rintro e w1 ⟨v1, rfl, ho1, hb1⟩
    have hb2 := hB.trans (hb1.mono hB.size)
    have hz2 := Nat.le_trans hz hb1.size
    have hc1 : w1.cell? ⟨w.heap.size, 2, none⟩ = some (.string s) := (hb1.cell (by simp only []; omega)).trans hc
    refine hK _ _ ⟨hc1, hb2, hz2⟩ ?_
    clear hK K
    try simp only [Act.put, List.setIfInBounds_toArray, List.set_cons_zero, List.set_cons_succ]
    refine wpTree_one rfl (fun K hK => ⟨by kernel_rfl, ?_⟩)
    go_simp
    have hba := below_alloc' w1 (.cells #[.int .u8 2] 5)
    have hb3 := hb2.alloc hb2.size (.cells #[.int .u8 2] 5)
    have hz3 : w.heap.size + 1 ≤ (w1.alloc (.cells #[.int .u8 2] 5)).heap.size := by simp; omega
    have hc3 : (w1.alloc (.cells #[.int .u8 2] 5)).cell? ⟨w.heap.size, 2, none⟩ = some (.string s) := (World.cell?_alloc_past _ _ _ (by first | omega | (simp only []; omega))).trans hc1
    have ho' := ownR.lower (own_oneB w1 2#8 (.int .u8 2) rfl) hz2
    have hob := own_slB (ownR.below ho1 hba) rfl (by omega)
    refine hK _ _ ⟨hc3, hb3, hz3⟩ ?_
    clear hK K
    try simp only [Act.put, List.setIfInBounds_toArray, List.set_cons_zero, List.set_cons_succ]
    refine wpTree_one rfl (fun K hK => ⟨by kernel_rfl, ?_⟩)
    refine wp_app1 _ _ rfl (w.heap.size + 1) _ 1 [2#8] rfl ho' _ rfl R _ hob.1 hpos (by omega) hz3 ?_
    intro v2 w2 ho2 hg2
    refine hK _ _ ⟨(hg2.cell_far _ (by simp only []; omega) (fun e => by have := (ho'.lt _ e.symm).1; simp only [] at this; omega)).trans hc3, hb3.grown hg2 hb3.size (fun r e => by have := (ho'.lt r e).1; omega), Nat.le_trans hz3 hg2.size⟩ ?_
    clear hK K
    try simp only [Act.put, List.setIfInBounds_toArray, List.set_cons_zero, List.set_cons_succ]
    clear hb2 hz2
    have hb2 := hb3.grown hg2 hb3.size (fun r e => by have := (ho'.lt r e).1; omega)
    have hz2 := Nat.le_trans hz3 hg2.size
    refine wpTree_done ?_
    simp only [List.drop_succ_cons, List.drop_zero]
    obtain ⟨i0, hi, hy0, hy1, hy2⟩ := info_parts infoB
    have HO2 := Lib.hid ho2
    clear ho2 ho1 hob
    go_wp2_with (at_builtin; refine Lib.wpList_append_own_string _ rfl _ _ _ _ rfl (w.heap.size + 1) 5 i0 Tryz.underlying102 Tryz.underlying9 hi hy0 hy1 hy2 _ _ _ rfl HO2.out s rfl (by unfold maxLen; omega) (by omega) hz2 ?_; intro v3 w3 ho3 hg3 _)
    go_ret
    refine ⟨_, rfl, ?_, hb2.grown hg3 hb2.size (fun r e => by have := (HO2.out.lt r e).1; omega)⟩
    rw [HE.out]
    rw [strCells_bv] at ho3
    exact ownR.lower (ownR.of ho3 (by simp) (by rw [List.length_cons, List.length_append, HBL.out]; omega)) (Nat.le_succ _)
theorem refencode_vt (t : Vt) (ht : t.ok) (w : World) :
    Calls Tryz.prog 98 #[t.val] w fun e w' => ∃ v, e = .returned v ∧ ownR w.heap.size w' v (bytesVt t) ∧ Below w.heap.size w w' := by
  cases t with
  | int n => exact refencode_int n ht.1 ht.2 w
  | text s => exact refencode_text s ht.2 w
set_option maxRecDepth 100000 in
set_option maxHeartbeats 4000000 in
theorem refencode_list (l : List Vt) (A : Option Addr) (c : Nat) (w : World) (h : SlT w w.heap.size (.slice A l.length c) l) (hs : okT l) (hl : l.length ≤ 1000) :
    Calls Tryz.prog 98 #[listV A l.length c] w fun e w' => ∃ v, e = .returned v ∧ ownR w.heap.size w' v (encT l) ∧ Below w.heap.size w w' := by
  have HS := Lib.hid h
  have HN := Lib.hid hs
  have HF := Lib.hid (flatT_length hs)
  have hnm := fun w => refnumeral_any l.length (by omega) w
  have hle : (numeral l.length).length ≤ 10 := numeral_length 9 l.length (by omega)
  have hen : encHd l.length = 3#8 :: numeral l.length := rfl
  obtain ⟨R, hR⟩ : ∃ R, numeral l.length = R := ⟨_, rfl⟩
  rw [hR] at hnm hle hen
  have HM := Lib.hid hnm
  have HE := Lib.hid hen
  clear h hs hnm hen hR
  have r0 := Row.new w 101 [.int .i64 3, .int .i64 0, .string ⟨#[]⟩, .slice A l.length c]
  have hBb := below_alloc' w (.cells #[.int .i64 3, .int .i64 0, .string ⟨#[]⟩, .slice A l.length c] 101)
  go_enter Tryz.func98, Tryz.ntmps98
  obtain ⟨W, hW⟩ : ∃ W, w.alloc (.cells #[.int .i64 3, .int .i64 0, .string ⟨#[]⟩, .slice A l.length c] 101) = W := ⟨_, rfl⟩
  replace r0 : Row W w.heap.size 101 [.int .i64 3, .int .i64 0, .string ⟨#[]⟩, .slice A l.length c] := hW ▸ r0
  have hzW : W.heap.size = w.heap.size + 1 := by rw [← hW]; simp
  rw [hW] at hBb
  go_upto_region 1 with fail
  clear hW
  have hz := r0.lt
  obtain ⟨k0, k1, k2, k3⟩ := st4 r0
  have ho := own_oneB W 3#8 (.int .u8 3) rfl
  rw [hzW] at ho
  have HO := Lib.hid ho
  have hB0 := hBb.alloc hBb.size (.cells #[.int .u8 3] 5)
  have r0' := r0.alloc (.cells #[.int .u8 3] 5)
  have hz0 : w.heap.size + 1 ≤ (W.alloc (.cells #[.int .u8 3] 5)).heap.size := by simp; omega
  clear ho
  go_upto_region 7 with (first
    | (go_at_call 107; (with_reducible refine (HM.out _).mono ?_); rintro e w1 ⟨v1, rfl, ho1, hb1⟩; have hob := own_slB ho1 rfl (by omega); have HO1 := Lib.hid (ownR.below HO.out hb1); have HB1 := Lib.hid (hB0.trans (hb1.mono hB0.size)); have hz1 := Nat.le_trans hz0 hb1.size; have HOB := Lib.hid hob; have HR1 := Lib.hid (r0'.below hb1 r0'.lt); clear ho1 hob hb1)
    | (at_builtin; refine wpList_app rfl _ _ rfl (w.heap.size + 1) _ 1 [3#8] (by first | rfl | simp [hzW]) HO1.out _ rfl R _ HOB.out.1 HOB.out.2 (by omega) hz1 ?_; intro v2 w2 ho2 hg2))
  have hB2 := HB1.out.grown hg2 HB1.out.size (fun r e => by have := (HO1.out.lt r e).1; omega)
  have hr2 : Row w2 w.heap.size 101 [.int .i64 3, .int .i64 0, .string ⟨#[]⟩, .slice A l.length c] := HR1.out.keep (hg2.block _ HR1.out.lt (fun e => by have := (HO1.out.lt _ e.symm).1; omega))
  have ho3 : ownR (w.heap.size + 1) w2 v2 (encHd l.length ++ (l.take 0).flatMap bytesVt) := ownR.of ho2 (by rw [HE.out]; simp) (by rw [HE.out]; simp; omega)
  have hz2 : w.heap.size + 1 ≤ w2.heap.size := Nat.le_trans hz1 hg2.size
  clear HM HO HO1 HB1 HOB HR1 hz1 hz0 r0' hB0 k0 k1 k2 k3 hz r0 hBb hzW ho2 hg2
  go_wp2_with fail
  go_loopg [3, 4] l.length (fun gh ov iv wr => ∃ k : Nat, iv = .int .i64 k ∧ k + gh = l.length ∧ Row wr w.heap.size 101 [.int .i64 3, .int .i64 0, .string ⟨#[]⟩, .slice A l.length c] ∧ Below w.heap.size w wr ∧ w.heap.size + 1 ≤ wr.heap.size ∧ ownR (w.heap.size + 1) wr ov (encHd l.length ++ (l.take k).flatMap bytesVt))
  case atStart => exact ⟨0, rfl, by omega, hr2, hB2, hz2, ho3⟩
  case round =>
    clear hr2 hB2 hz2 ho3
    obtain ⟨k, rfl, hkg, hrow, hBr, hzr, hown⟩ := hrel
    obtain ⟨k0, k1, k2, k3⟩ := st4 hrow
    have hzz := hrow.lt
    by_cases hlt : k < l.length
    · obtain ⟨b, o, c', hv, hb, d0, d1, d2, d3⟩ := SlT.get (HS.out.below hBr) hlt
      cases hv
      have hnn := HN.out k hlt
      have hsn := take_snocT hlt
      have hlen := HF.out k (by omega)
      have hhd := encHd_length (n := l.length) (by omega)
      have hfl : (encHd l.length ++ (l.take k).flatMap bytesVt).length ≤ 2000000 := by rw [List.length_append]; omega
      have hxl := bytesVt_length hnn
      obtain ⟨x, hx⟩ : ∃ x, l.getD k default = x := ⟨_, rfl⟩
      rw [hx] at d0 d1 d2 d3 hnn hsn hxl
      have s1 : (0 : Int) ≤ k := by omega
      have s2 : (k : Int) < l.length := by omega
      have hbz : b < wr.heap.size := by omega
      clear hx hlen hhd
      obtain ⟨acc, hacc⟩ : ∃ acc, encHd l.length ++ (l.take k).flatMap bytesVt = acc := ⟨_, rfl⟩
      have HSN := Lib.hid hsn
      have HAC := Lib.hid hacc
      rw [hacc] at hown hfl
      have hei := fun w => refencode_vt x hnn w
      obtain ⟨E, hE⟩ : ∃ E, bytesVt x = E := ⟨_, rfl⟩
      rw [hE] at hei hxl
      have HEE := Lib.hid hE
      have HOW := Lib.hid hown
      have HROW := Lib.hid hrow
      clear hsn hacc hE hown
      cases x with
      | int n =>
        replace d0 : wr.cell? ⟨b, o + k * 4, none⟩ = some (.int .i64 1) := d0
        replace d1 : wr.cell? ⟨b, o + k * 4 + 1, none⟩ = some (.int .i64 n) := d1
        replace d2 : wr.cell? ⟨b, o + k * 4 + 2, none⟩ = some (.string ⟨#[]⟩) := d2
        replace d3 : wr.cell? ⟨b, o + k * 4 + 3, none⟩ = some (.slice none 0 0) := d3
        unfold Vt.val at hei
        have HEI := Lib.hid hei
        clear hei hnn
        go_wp2_with (first
          | (go_at_call 98; (with_reducible refine (HEI.out _).mono ?_); rintro e w1 ⟨v1, rfl, ho1, hb1⟩; have HOB := Lib.hid (own_slB ho1 rfl (by omega)); have HO1 := Lib.hid (ownR.below HOW.out hb1); have HB1 := Lib.hid (hBr.trans (hb1.mono hBr.size)); have hz1 := Nat.le_trans hzr hb1.size; have HR1 := Lib.hid (HROW.out.below hb1 hzz); clear ho1 hb1)
          | (at_builtin; refine wpList_app rfl _ _ rfl (w.heap.size + 1) _ acc.length acc rfl HO1.out _ rfl E _ HOB.out.1 HOB.out.2 (by omega) hz1 ?_; intro v2 w2 ho2 hg2))
        go_roundg (gk - 1)
        case measure => omega
        case rel =>
          refine ⟨k + 1, by first | rfl | go_num, by omega, HR1.out.keep (hg2.block _ HR1.out.lt (fun e => by have := (HO1.out.lt _ e.symm).1; omega)), HB1.out.grown hg2 HB1.out.size (fun r e => by have := (HO1.out.lt r e).1; omega), Nat.le_trans hz1 hg2.size, ?_⟩
          rw [HSN.out, ← List.append_assoc, HAC.out]
          exact ownR.of ho2 (by rw [HEE.out]) (by rw [List.length_append, HEE.out])
      | text s =>
        replace d0 : wr.cell? ⟨b, o + k * 4, none⟩ = some (.int .i64 2) := d0
        replace d1 : wr.cell? ⟨b, o + k * 4 + 1, none⟩ = some (.int .i64 0) := d1
        replace d2 : wr.cell? ⟨b, o + k * 4 + 2, none⟩ = some (.string s) := d2
        replace d3 : wr.cell? ⟨b, o + k * 4 + 3, none⟩ = some (.slice none 0 0) := d3
        unfold Vt.val at hei
        have HEI := Lib.hid hei
        clear hei hnn
        go_wp2_with (first
          | (go_at_call 98; (with_reducible refine (HEI.out _).mono ?_); rintro e w1 ⟨v1, rfl, ho1, hb1⟩; have HOB := Lib.hid (own_slB ho1 rfl (by omega)); have HO1 := Lib.hid (ownR.below HOW.out hb1); have HB1 := Lib.hid (hBr.trans (hb1.mono hBr.size)); have hz1 := Nat.le_trans hzr hb1.size; have HR1 := Lib.hid (HROW.out.below hb1 hzz); clear ho1 hb1)
          | (at_builtin; refine wpList_app rfl _ _ rfl (w.heap.size + 1) _ acc.length acc rfl HO1.out _ rfl E _ HOB.out.1 HOB.out.2 (by omega) hz1 ?_; intro v2 w2 ho2 hg2))
        go_roundg (gk - 1)
        case measure => omega
        case rel =>
          refine ⟨k + 1, by first | rfl | go_num, by omega, HR1.out.keep (hg2.block _ HR1.out.lt (fun e => by have := (HO1.out.lt _ e.symm).1; omega)), HB1.out.grown hg2 HB1.out.size (fun r e => by have := (HO1.out.lt r e).1; omega), Nat.le_trans hz1 hg2.size, ?_⟩
          rw [HSN.out, ← List.append_assoc, HAC.out]
          exact ownR.of ho2 (by rw [HEE.out]) (by rw [List.length_append, HEE.out])
    · obtain rfl : k = l.length := by omega
      rw [List.take_length] at hown
      go_wp2_with fail
      go_ret
      exact ⟨_, rfl, ownR.lower hown (by omega), hBr⟩
set_option maxRecDepth 100000 in
set_option maxHeartbeats 4000000 in
theorem refEncode_list (l : List Vt) (A : Option Addr) (c : Nat) (w : World) (h : SlT w w.heap.size (.slice A l.length c) l) (hs : okT l) (hl : l.length ≤ 1000) :
    Calls Tryz.prog 79 #[listV A l.length c] w fun e w' => ∃ v, e = .returned (.tuple #[v, .int .i64 0]) ∧ ownR w.heap.size w' v (encT l) ∧ Below w.heap.size w w' := by
  have HS := Lib.hid h
  have HN := Lib.hid hs
  clear h hs
  have r0 := Row.new w 101 [.int .i64 3, .int .i64 0, .string ⟨#[]⟩, .slice A l.length c]
  have hB0 := below_alloc' w (.cells #[.int .i64 3, .int .i64 0, .string ⟨#[]⟩, .slice A l.length c] 101)
  have hf := fun W (h : Below w.heap.size w W) => refcheck_list l A c W ((HS.out.below h).mono h.size) HN.out
  have hd := fun W (h : Below w.heap.size w W) => refencode_list l A c W ((HS.out.below h).mono h.size) HN.out hl
  have HF := Lib.hid hf
  have HD := Lib.hid hd
  clear hf hd
  go_enter Tryz.func79, Tryz.ntmps79
  obtain ⟨W, hW⟩ : ∃ W, w.alloc (.cells #[.int .i64 3, .int .i64 0, .string ⟨#[]⟩, .slice A l.length c] 101) = W := ⟨_, rfl⟩
  replace r0 : Row W w.heap.size 101 [.int .i64 3, .int .i64 0, .string ⟨#[]⟩, .slice A l.length c] := hW ▸ r0
  rw [hW] at hB0
  have hz := r0.lt
  go_upto_region 1 with fail
  clear hW
  obtain ⟨k0, k1, k2, k3⟩ := st4 r0
  go_wp2_with (first
    | (go_at_call 97; (with_reducible refine (HF.out _ hB0).mono ?_); rintro e w1 ⟨rfl, hb⟩; replace r0 := r0.below hb hz; replace hB0 := hB0.trans (hb.mono hB0.size); replace hz := r0.lt; clear k0 k1 k2 k3; obtain ⟨k0, k1, k2, k3⟩ := st4 r0)
    | (go_at_call 98; (with_reducible refine (HD.out _ hB0).mono ?_); rintro e w2 ⟨v, rfl, ho, hb2⟩))
  go_ret2
  exact ⟨v, rfl, ownR.lower ho hB0.size, hB0.trans (hb2.mono hB0.size)⟩
end Go.Proofs.YthboebhghaabnaaGreatDoor

set_option linter.unusedSimpArgs false
set_option linter.unusedVariables false
namespace Go.Proofs.YthboebhghaabnaaGreatDoor
open Go.RowKit Fk Sha
/-! The reference of law 13: values; what is committed to; Commit of law 14. -/
set_option maxRecDepth 100000 in
set_option maxHeartbeats 2000000 in
theorem rnumber13_any (n : Int) (w : World) : Calls Tryz.prog 82 #[.int .i64 n] w fun e w' => e = .returned (intV n) ∧ Below w.heap.size w w' := by
  go_enter Tryz.func82, Tryz.ntmps82
  go_wp2_with fail
  have r0 := Row.new w 101 [.int .i64 1, .int .i64 n, .string ⟨#[]⟩, .slice none 0 0]
  first
  | (have hinf : (Tryz.prog.info? 101).map (·.size) = some 4 := by kernel_rfl
     exact bodyPost_ret (v := intV n) (results_cell_row (g := w.heap.size) (t := 101) (fr := (0, 0)) rfl _ _ _ _ rfl r0 Tryz.underlying101 rfl (by rw [hinf]; simp)) rfl ⟨rfl, below_alloc' w _⟩)
  | (go_ret; exact ⟨rfl, below_alloc' w _⟩)
set_option maxRecDepth 100000 in
set_option maxHeartbeats 2000000 in
theorem rlist13_any (A : Option Addr) (n c : Nat) (w : World) : Calls Tryz.prog 81 #[.slice A n c] w fun e w' => e = .returned (listV A n c) ∧ Below w.heap.size w w' := by
  go_enter Tryz.func81, Tryz.ntmps81
  go_wp2_with fail
  have r0 := Row.new w 101 [.int .i64 3, .int .i64 0, .string ⟨#[]⟩, .slice A n c]
  first
  | (have hinf : (Tryz.prog.info? 101).map (·.size) = some 4 := by kernel_rfl
     exact bodyPost_ret (v := listV A n c) (results_cell_row (g := w.heap.size) (t := 101) (fr := (0, 0)) rfl _ _ _ _ rfl r0 Tryz.underlying101 rfl (by rw [hinf]; simp)) rfl ⟨rfl, below_alloc' w _⟩)
  | (go_ret; exact ⟨rfl, below_alloc' w _⟩)
theorem conv_bytes {w : World} {base n : Nat} {v : Value} {l : List B} (h : w.ownsRow base 5 1 v n (l.map bv)) (hn : n = l.length) (h0 : 0 < l.length) : (convert 102 9 v).run Tryz.prog w = .ok (.string (saltS l)) w := by
  subst hn
  have hl : (u8s l).length = l.length := by unfold u8s; rw [List.length_map]
  rcases id h.2 with ⟨_, e⟩ | ⟨g, cap, cur, rfl, _⟩
  · omega
  have holds := h.cells (g := g) rfl
  have := run_convert_bytes_back (P := Tryz.prog) w 102 9 5 ⟨g, 0, none⟩ cap (u8s l) Tryz.underlying102 Tryz.underlying5 Tryz.underlying9 (fun j hj => by
    have hj2 : j < l.length := by omega
    refine holds j _ ?_
    rw [List.getElem?_map, List.getElem?_eq_getElem hj2]
    simp only [u8s, List.getElem_map, Option.map_some]
    unfold bv bn
    rw [UInt8.toNat_ofNat', Nat.mod_eq_of_lt (by have := l[j].isLt; omega)])
  rw [hl] at this
  exact this
set_option maxRecDepth 100000 in
set_option maxHeartbeats 4000000 in
theorem rtext13_any (d : List B) (hd : d.length = 32) (w : World) : Calls Tryz.prog 83 #[.agg (d.map bv).toArray] w fun e w' => e = .returned (Vt.val (.text (saltS d))) ∧ Below w.heap.size w w' := by
  have r0 := (Row.new w 58 (d.map bv)).alloc (.cells #[.int .i64 0, .int .i64 0, .string ⟨#[]⟩, .slice none 0 0] 101)
  have r1 := Row.new (w.alloc (.cells (d.map bv).toArray 58)) 101 [.int .i64 0, .int .i64 0, .string ⟨#[]⟩, .slice none 0 0]
  rw [World.size_alloc] at r1
  have hB := (below_alloc' w (.cells (d.map bv).toArray 58)).alloc (by simp) (.cells #[.int .i64 0, .int .i64 0, .string ⟨#[]⟩, .slice none 0 0] 101)
  have hz : w.heap.size + 2 = ((w.alloc (.cells (d.map bv).toArray 58)).alloc (.cells #[.int .i64 0, .int .i64 0, .string ⟨#[]⟩, .slice none 0 0] 101)).heap.size := by simp
  unfold Vt.val
  go_enter Tryz.func83, Tryz.ntmps83
  obtain ⟨W, hW⟩ : ∃ W, (w.alloc (.cells (d.map bv).toArray 58)).alloc (.cells #[.int .i64 0, .int .i64 0, .string ⟨#[]⟩, .slice none 0 0] 101) = W := ⟨_, rfl⟩
  replace r1 : Row W (w.heap.size + 1) 101 [.int .i64 0, .int .i64 0, .string ⟨#[]⟩, .slice none 0 0] := hW ▸ r1
  rw [hW] at r0 hB hz
  go_upto_region 1 with fail
  have hown := own_emptyB W
  have hB1 := hB.alloc hB.size (.cells #[] 5)
  have r0' := r0.alloc (.cells #[] 5)
  have r1' := r1.alloc (.cells #[] 5)
  have hzW : w.heap.size + 2 ≤ (W.alloc (.cells #[] 5)).heap.size := by simp; omega
  go_wp2_with fail
  generalize hW1 : W.alloc (.cells #[] 5) = W1 at *
  go_loopg [3, 4] 32 (fun g sv iv wr => ∃ k : Nat, iv = .int .i64 k ∧ k + g = 32 ∧ Row wr w.heap.size 58 (d.map bv) ∧ Row wr (w.heap.size + 1) 101 [.int .i64 0, .int .i64 0, .string ⟨#[]⟩, .slice none 0 0] ∧ Below w.heap.size w wr ∧ w.heap.size + 2 ≤ wr.heap.size ∧ wr.ownsRow (w.heap.size + 2) 5 1 sv k ((d.take k).map bv))
  case atStart =>
    subst hW1
    subst hW
    exact ⟨0, rfl, by omega, r0', r1', hB1, hzW, by rw [hz]; exact hown⟩
  case round =>
    clear r0 r1 hB hown hB1 r0' r1' hzW hW1 hW hz
    obtain ⟨k, rfl, hk, hr0, hr1, hBr, hzr, hown⟩ := hrel
    by_cases hlt : k < 32
    · have s1 : (k : Int) < 32 := by omega
      have s2 : (0 : Int) ≤ k := by omega
      have hc : wr.cell? ⟨w.heap.size, k, none⟩ = some (bv (d.getD k default)) := by
        rw [hr0.cell, List.getElem?_map, List.getElem?_eq_getElem (by omega), List.getD_eq_getElem?_getD, List.getElem?_eq_getElem (by omega)]
        rfl
      have htk : (d.take (k + 1)).map bv = ((d.take k) ++ [d.getD k default]).map bv := by rw [take_snocB (by omega)]
      obtain ⟨c, hcc⟩ : ∃ c, d.getD k default = c := ⟨_, rfl⟩
      rw [hcc] at hc htk
      have HT := Lib.hid htk
      have HO := Lib.hid hown
      have hlo := hr0.lt
      have hone := one_slB wr c (bv c) rfl wr.heap.size rfl
      have HN := Lib.hid hone
      clear hcc htk hown hone
      unfold bv at hc
      go_wp2_with (at_builtin; refine wpList_app rfl _ _ rfl (w.heap.size + 2) _ k _ rfl (HO.out.alloc _) _ rfl [c] _ HN.out.1 HN.out.2 (by simp; omega) (by simp; omega) ?_; intro v3 w4 hown3 hg3)
      go_roundg (gk - 1)
      case measure => omega
      case rel =>
        have hne : ∀ b, b < w.heap.size + 2 → ∀ r, Value.ownBlock _ = some r → b ≠ r := fun b hb r e e2 => by have := (HO.out.lt r e).1; omega
        refine ⟨k + 1, by first | rfl | go_num, by omega, ?_, ?_, (hBr.alloc hBr.size _).grown hg3 (by simp; omega) (fun r e => by have := (HO.out.lt r e).1; omega), Nat.le_trans (by simp; omega) hg3.size, ?_⟩
        · exact (hr0.alloc _).keep (hg3.block _ (by simp; omega) (fun e => hne _ (by omega) _ e.symm rfl))
        · exact (hr1.alloc _).keep (hg3.block _ (by simp; omega) (fun e => hne _ (by omega) _ e.symm rfl))
        · rw [HT.out]; exact hown3
    · obtain rfl : k = 32 := by omega
      have htk : d.take 32 = d := by rw [← hd]; exact List.take_length
      rw [htk] at hown
      have hcv := conv_bytes hown hd.symm (by omega)
      obtain ⟨c0, c1, c2, c3⟩ := st4 hr1
      have y0 := hr1.frozen 0
      have y1 := hr1.frozen 1
      have y2 := hr1.frozen 2
      have y3 := hr1.frozen 3
      have hlo := hr1.lt
      obtain ⟨X, hX⟩ : ∃ X, saltS d = X := ⟨_, rfl⟩
      rw [hX] at hcv
      have HX := Lib.hid hX
      clear hown htk hX
      go_wp2_with fail
      have hf := (((hr1.store 0 (.int .i64 2)).store 1 (.int .i64 0)).store 2 (.string X)).store 3 (.slice none 0 0)
      have hBf := (((hBr.setCell (p := ⟨w.heap.size + 1, 0, none⟩) (by simp) (.int .i64 2)).setCell (p := ⟨w.heap.size + 1, 1, none⟩) (by simp) (.int .i64 0)).setCell (p := ⟨w.heap.size + 1, 2, none⟩) (by simp) (.string X)).setCell (p := ⟨w.heap.size + 1, 3, none⟩) (by simp) (.slice none 0 0)
      have hinf : (Tryz.prog.info? 101).map (·.size) = some 4 := by kernel_rfl
      exact bodyPost_ret (v := .agg #[.int .i64 2, .int .i64 0, .string X, .slice none 0 0]) (results_cell_row (g := w.heap.size + 1) (t := 101) (fr := (0, 0)) rfl _ _ _ _ rfl hf Tryz.underlying101 rfl (by rw [hinf]; simp)) rfl ⟨by rw [HX.out], hBf⟩
end Go.Proofs.YthboebhghaabnaaGreatDoor

set_option linter.unusedSimpArgs false
set_option linter.unusedVariables false
namespace Go.Proofs.YthboebhghaabnaaGreatDoor
open Go.RowKit Fk Sha
/-! The reference of law 14: Value. -/
theorem slT5 {w : World} {g B0 : Nat} {o : Og} {t : TypeId} (h : Row w g t ((vtO o).flatMap encVt)) (hB : g < B0) : SlT w B0 (.slice (some ⟨g, 0, none⟩) 5 5) (vtO o) := by
  have := Row.sl (m := 4) (enc := encVt) (c := 5) (l := vtO o) (B0 := B0) h (fun t => encVt_length t) (by simp [vtO]) hB
  exact this
set_option maxRecDepth 100000 in
set_option maxHeartbeats 4000000 in
theorem rvalue14_any (o : Og) (ho : o.ok) (w : World) : Calls Tryz.prog 62 #[.agg o.cells.toArray] w fun e w' => ∃ A c, e = .returned (listV A 5 c) ∧ SlT w' w'.heap.size (.slice A 5 c) (vtO o) ∧ Below w.heap.size w w' := by
  have r0 := (Row.new w 60 o.cells).alloc (.cells #[.int .i64 0, .int .i64 0, .string ⟨#[]⟩, .slice none 0 0] 101)
  have r1 := Row.new (w.alloc (.cells o.cells.toArray 60)) 101 [.int .i64 0, .int .i64 0, .string ⟨#[]⟩, .slice none 0 0]
  rw [World.size_alloc] at r1
  have hB := (below_alloc' w (.cells o.cells.toArray 60)).alloc (by simp) (.cells #[.int .i64 0, .int .i64 0, .string ⟨#[]⟩, .slice none 0 0] 101)
  have hz : w.heap.size + 2 = ((w.alloc (.cells o.cells.toArray 60)).alloc (.cells #[.int .i64 0, .int .i64 0, .string ⟨#[]⟩, .slice none 0 0] 101)).heap.size := by simp
  have hv5 : (vtO o).flatMap encVt = [.int .i64 1, .int .i64 o.a, .string ⟨#[]⟩, .slice none 0 0] ++ [.int .i64 1, .int .i64 o.r.p, .string ⟨#[]⟩, .slice none 0 0] ++ [.int .i64 1, .int .i64 o.r.q, .string ⟨#[]⟩, .slice none 0 0] ++ [.int .i64 1, .int .i64 o.r.r, .string ⟨#[]⟩, .slice none 0 0] ++ [.int .i64 2, .int .i64 0, .string (saltS o.s), .slice none 0 0] := rfl
  have HN := Lib.hid rnumber13_any
  have HL := Lib.hid rlist13_any
  have HT := Lib.hid (fun w => rtext13_any o.s ho.2 w)
  have HV := Lib.hid hv5
  clear hv5
  go_enter Tryz.func62, Tryz.ntmps62
  obtain ⟨W, hW⟩ : ∃ W, (w.alloc (.cells o.cells.toArray 60)).alloc (.cells #[.int .i64 0, .int .i64 0, .string ⟨#[]⟩, .slice none 0 0] 101) = W := ⟨_, rfl⟩
  replace r1 : Row W (w.heap.size + 1) 101 [.int .i64 0, .int .i64 0, .string ⟨#[]⟩, .slice none 0 0] := hW ▸ r1
  rw [hW] at r0 hB hz
  go_upto_region 1 with fail
  try rw [hW]
  clear hW
  obtain ⟨c, hc⟩ : ∃ c, o.cells = c := ⟨_, rfl⟩
  have h0 : W.cell? ⟨w.heap.size, 0, none⟩ = some (.int .i64 o.a) := r0.cell 0
  have h1 : W.cell? ⟨w.heap.size, 1, none⟩ = some (.int .i64 o.r.p) := r0.cell 1
  have h2 : W.cell? ⟨w.heap.size, 2, none⟩ = some (.int .i64 o.r.q) := r0.cell 2
  have h3 : W.cell? ⟨w.heap.size, 3, none⟩ = some (.int .i64 o.r.r) := r0.cell 3
  have h4 : W.rangeAt w.heap.size 4 (o.s.map bv) := fun j v hj => by
    have := range_row r0 (4 + j) v (by
      show (([.int .i64 o.a, .int .i64 o.r.p, .int .i64 o.r.q, .int .i64 o.r.r] : List Value) ++ o.s.map bv)[4 + j]? = some v
      rw [List.getElem?_append_right (by simp)]
      simpa using hj)
    simpa using this
  have hinf : (Tryz.prog.info? 58).map (·.size) = some (o.s.map bv).length := by rw [List.length_map, ho.2]; kernel_rfl
  have hlt : w.heap.size < W.heap.size := by omega
  obtain ⟨X, hX⟩ : ∃ X, saltS o.s = X := ⟨_, rfl⟩
  rw [hX] at HT HV
  clear hX hc c
  refine wp_region_det 18 (fun W' => Below W.heap.size W W') (by kernel_rfl) (by kernel_rfl) (Below.refl _ _).drew ?_
  iterate 2
    refine wpDet_take (v := ?_) rfl (by kernel_rfl) (fun w' hSw => ?_) ?_
    rotate_left 1
    · have c0 := (hSw.cell hlt).trans h0
      go_simp
      with_reducible rfl
    simp only [Act.put, List.getElem_toArray, List.getElem_cons_succ, List.getElem_cons_zero, List.setIfInBounds_toArray, List.set_cons_zero, List.set_cons_succ]
  refine wpDet_call (v := intV o.a) rfl (by kernel_rfl) (fun w' hSw K hK => ?_) ?_
  · go_simp
    go_at_call 82
    refine (HN.out _ _).mono ?_
    rintro e w1 ⟨rfl, hb⟩
    exact hK _ (hSw.trans (hb.mono hSw.size))
  simp only [Act.put, List.getElem_toArray, List.getElem_cons_succ, List.getElem_cons_zero, List.setIfInBounds_toArray, List.set_cons_zero, List.set_cons_succ]
  iterate 3
    refine wpDet_take (v := ?_) rfl (by kernel_rfl) (fun w' hSw => ?_) ?_
    rotate_left 1
    · have c0 := (hSw.cell hlt).trans h1
      go_simp
      with_reducible rfl
    simp only [Act.put, List.getElem_toArray, List.getElem_cons_succ, List.getElem_cons_zero, List.setIfInBounds_toArray, List.set_cons_zero, List.set_cons_succ]
  refine wpDet_call (v := intV o.r.p) rfl (by kernel_rfl) (fun w' hSw K hK => ?_) ?_
  · go_simp
    go_at_call 82
    refine (HN.out _ _).mono ?_
    rintro e w1 ⟨rfl, hb⟩
    exact hK _ (hSw.trans (hb.mono hSw.size))
  simp only [Act.put, List.getElem_toArray, List.getElem_cons_succ, List.getElem_cons_zero, List.setIfInBounds_toArray, List.set_cons_zero, List.set_cons_succ]
  iterate 3
    refine wpDet_take (v := ?_) rfl (by kernel_rfl) (fun w' hSw => ?_) ?_
    rotate_left 1
    · have c0 := (hSw.cell hlt).trans h2
      go_simp
      with_reducible rfl
    simp only [Act.put, List.getElem_toArray, List.getElem_cons_succ, List.getElem_cons_zero, List.setIfInBounds_toArray, List.set_cons_zero, List.set_cons_succ]
  refine wpDet_call (v := intV o.r.q) rfl (by kernel_rfl) (fun w' hSw K hK => ?_) ?_
  · go_simp
    go_at_call 82
    refine (HN.out _ _).mono ?_
    rintro e w1 ⟨rfl, hb⟩
    exact hK _ (hSw.trans (hb.mono hSw.size))
  simp only [Act.put, List.getElem_toArray, List.getElem_cons_succ, List.getElem_cons_zero, List.setIfInBounds_toArray, List.set_cons_zero, List.set_cons_succ]
  iterate 3
    refine wpDet_take (v := ?_) rfl (by kernel_rfl) (fun w' hSw => ?_) ?_
    rotate_left 1
    · have c0 := (hSw.cell hlt).trans h3
      go_simp
      with_reducible rfl
    simp only [Act.put, List.getElem_toArray, List.getElem_cons_succ, List.getElem_cons_zero, List.setIfInBounds_toArray, List.set_cons_zero, List.set_cons_succ]
  refine wpDet_call (v := intV o.r.r) rfl (by kernel_rfl) (fun w' hSw K hK => ?_) ?_
  · go_simp
    go_at_call 82
    refine (HN.out _ _).mono ?_
    rintro e w1 ⟨rfl, hb⟩
    exact hK _ (hSw.trans (hb.mono hSw.size))
  simp only [Act.put, List.getElem_toArray, List.getElem_cons_succ, List.getElem_cons_zero, List.setIfInBounds_toArray, List.set_cons_zero, List.set_cons_succ]
  iterate 1
    refine wpDet_take (v := ?_) rfl (by kernel_rfl) (fun w' hSw => ?_) ?_
    rotate_left 1
    · skip
      go_simp
      with_reducible rfl
    simp only [Act.put, List.getElem_toArray, List.getElem_cons_succ, List.getElem_cons_zero, List.setIfInBounds_toArray, List.set_cons_zero, List.set_cons_succ]
  refine wpDet_take (v := .agg (o.s.map bv).toArray) rfl (by kernel_rfl) (fun w' hSw => exec_load (ty := 58) (x := .tmp 18) (p := .pointer (some ⟨w.heap.size, 4, none⟩)) (by kernel_rfl) (by kernel_rfl) (run_loadAt_mid w' w.heap.size 4 58 (o.s.map bv) _ (range_below h4 hSw hlt) Tryz.underlying58 rfl hinf)) ?_
  simp only [Act.put, List.getElem_toArray, List.getElem_cons_succ, List.getElem_cons_zero, List.setIfInBounds_toArray, List.set_cons_zero, List.set_cons_succ]
  refine wpDet_call (v := .agg #[.int .i64 2, .int .i64 0, .string X, .slice none 0 0]) rfl (by kernel_rfl) (fun w' hSw K hK => ?_) ?_
  · go_simp
    go_at_call 83
    refine (HT.out _).mono ?_
    rintro e w1 ⟨rfl, hb⟩
    exact hK _ (hSw.trans (hb.mono hSw.size))
  simp only [Act.put, List.getElem_toArray, List.getElem_cons_succ, List.getElem_cons_zero, List.setIfInBounds_toArray, List.set_cons_zero, List.set_cons_succ]
  refine wpDet_done ?_
  intro w2 hS2
  simp only [List.drop_succ_cons, List.drop_zero]
  have hz2 := hS2.size
  have r2 := r1.below hS2 (by omega)
  have hB2 := hB.trans (hS2.mono hB.size)
  clear h0 h1 h2 h3 h4 r0 r1 hS2 HN HT hB
  have R5 : Row (w2.alloc (.cells #[.int .i64 1, .int .i64 o.a, .string ⟨#[]⟩, .slice none 0 0, .int .i64 1, .int .i64 o.r.p, .string ⟨#[]⟩, .slice none 0 0, .int .i64 1, .int .i64 o.r.q, .string ⟨#[]⟩, .slice none 0 0, .int .i64 1, .int .i64 o.r.r, .string ⟨#[]⟩, .slice none 0 0, .int .i64 2, .int .i64 0, .string X, .slice none 0 0] 101)) w2.heap.size 101 ((vtO o).flatMap encVt) := by rw [HV.out]; exact Row.new w2 _ _
  have hB3 := hB2.alloc hB2.size (.cells #[.int .i64 1, .int .i64 o.a, .string ⟨#[]⟩, .slice none 0 0, .int .i64 1, .int .i64 o.r.p, .string ⟨#[]⟩, .slice none 0 0, .int .i64 1, .int .i64 o.r.q, .string ⟨#[]⟩, .slice none 0 0, .int .i64 1, .int .i64 o.r.r, .string ⟨#[]⟩, .slice none 0 0, .int .i64 2, .int .i64 0, .string X, .slice none 0 0] 101)
  have r3 := r2.alloc (.cells #[.int .i64 1, .int .i64 o.a, .string ⟨#[]⟩, .slice none 0 0, .int .i64 1, .int .i64 o.r.p, .string ⟨#[]⟩, .slice none 0 0, .int .i64 1, .int .i64 o.r.q, .string ⟨#[]⟩, .slice none 0 0, .int .i64 1, .int .i64 o.r.r, .string ⟨#[]⟩, .slice none 0 0, .int .i64 2, .int .i64 0, .string X, .slice none 0 0] 101)
  have HR := Lib.hid (And.intro R5 (And.intro hB3 r3))
  have hz3 : w.heap.size + 2 ≤ w2.heap.size := by omega
  clear R5 hB3 r3 r2 hB2 HV
  go_wp2_with (go_at_call 81; (with_reducible refine (HL.out _ _ _ _).mono ?_); rintro e w3 ⟨rfl, hb⟩; obtain ⟨p0, p1, p2⟩ := HR.out; replace p0 := p0.below hb p0.lt; replace p1 := p1.trans (hb.mono p1.size); replace p2 := p2.below hb p2.lt; obtain ⟨c0, c1, c2, c3⟩ := st4 p2; have y0 := p2.frozen 0; have y1 := p2.frozen 1; have y2 := p2.frozen 2; have y3 := p2.frozen 3; have hlo := p2.lt; clear hb)
  have hf := (((p2.store 0 (.int .i64 3)).store 1 (.int .i64 0)).store 2 (.string ⟨#[]⟩)).store 3 (.slice (some ⟨w2.heap.size, 0, none⟩) 5 5)
  have hBf := (((p1.setCell (p := ⟨w.heap.size + 1, 0, none⟩) (by simp) (.int .i64 3)).setCell (p := ⟨w.heap.size + 1, 1, none⟩) (by simp) (.int .i64 0)).setCell (p := ⟨w.heap.size + 1, 2, none⟩) (by simp) (.string ⟨#[]⟩)).setCell (p := ⟨w.heap.size + 1, 3, none⟩) (by simp) (.slice (some ⟨w2.heap.size, 0, none⟩) 5 5)
  have hV := (((p0.other (p := ⟨w.heap.size + 1, 0, none⟩) (by simp only []; omega) (.int .i64 3)).other (p := ⟨w.heap.size + 1, 1, none⟩) (by simp only []; omega) (.int .i64 0)).other (p := ⟨w.heap.size + 1, 2, none⟩) (by simp only []; omega) (.string ⟨#[]⟩)).other (p := ⟨w.heap.size + 1, 3, none⟩) (by simp only []; omega) (.slice (some ⟨w2.heap.size, 0, none⟩) 5 5)
  have hinf2 : (Tryz.prog.info? 101).map (·.size) = some 4 := by kernel_rfl
  exact bodyPost_ret (v := listV (some ⟨w2.heap.size, 0, none⟩) 5 5) (results_cell_row (g := w.heap.size + 1) (t := 101) (fr := (0, 0)) rfl _ _ _ _ rfl hf Tryz.underlying101 rfl (by rw [hinf2]; simp)) rfl ⟨_, _, rfl, slT5 hV hV.lt, hBf⟩
end Go.Proofs.YthboebhghaabnaaGreatDoor

set_option linter.unusedSimpArgs false
set_option linter.unusedVariables false
namespace Go.Proofs.YthboebhghaabnaaGreatDoor
open Go.RowKit Fk Sha
/-! The reference: Tagged of law 13, Commit of law 14. -/
set_option maxRecDepth 100000 in
set_option maxHeartbeats 4000000 in
theorem rtagged13_any (tag : ByteArray) (l : List Vt) (A : Option Addr) (c : Nat) (w : World) (h : SlT w w.heap.size (.slice A l.length c) l) (hok : okT l) (hl : l.length ≤ 1000) (hel : (encT l).length ≤ 1099511627000) (ht : tag.size ≤ 1000) :
    Calls Tryz.prog 61 #[.string tag, listV A l.length c] w fun e w' => e = .returned (.agg ((tagged (sb tag) (encT l)).map bv).toArray) ∧ Below w.heap.size w w' := by
  have r0 := (Row.new w 101 [.int .i64 3, .int .i64 0, .string ⟨#[]⟩, .slice A l.length c]).alloc (.cells (List.replicate 32 (Value.int IntKind.u8 0)).toArray 58)
  have r1 := Row.new (w.alloc (.cells #[.int .i64 3, .int .i64 0, .string ⟨#[]⟩, .slice A l.length c] 101)) 58 (List.replicate 32 (Value.int IntKind.u8 0))
  rw [World.size_alloc] at r1
  have hB := (below_alloc' w (.cells #[.int .i64 3, .int .i64 0, .string ⟨#[]⟩, .slice A l.length c] 101)).alloc (by simp) (.cells (List.replicate 32 (Value.int IntKind.u8 0)).toArray 58)
  have HEN := Lib.hid (fun W (hb : Below w.heap.size w W) => refEncode_list l A c W ((h.below hb).mono hb.size) hok hl)
  clear h
  go_enter Tryz.func61, Tryz.ntmps61
  obtain ⟨W, hW⟩ : ∃ W, (w.alloc (.cells #[.int .i64 3, .int .i64 0, .string ⟨#[]⟩, .slice A l.length c] 101)).alloc (.cells #[.int .u8 0, .int .u8 0, .int .u8 0, .int .u8 0, .int .u8 0, .int .u8 0, .int .u8 0, .int .u8 0, .int .u8 0, .int .u8 0, .int .u8 0, .int .u8 0, .int .u8 0, .int .u8 0, .int .u8 0, .int .u8 0, .int .u8 0, .int .u8 0, .int .u8 0, .int .u8 0, .int .u8 0, .int .u8 0, .int .u8 0, .int .u8 0, .int .u8 0, .int .u8 0, .int .u8 0, .int .u8 0, .int .u8 0, .int .u8 0, .int .u8 0, .int .u8 0] 58) = W := ⟨_, rfl⟩
  replace r0 : Row W w.heap.size 101 [.int .i64 3, .int .i64 0, .string ⟨#[]⟩, .slice A l.length c] := by rw [← hW]; exact r0
  replace r1 : Row W (w.heap.size + 1) 58 (List.replicate 32 (Value.int IntKind.u8 0)) := by rw [← hW]; exact r1
  replace hB : Below w.heap.size w W := by rw [← hW]; exact hB
  go_upto_region 1 with fail
  try rw [hW]
  clear hW
  obtain ⟨k0, k1, k2, k3⟩ := st4 r0
  have hlo := r0.lt
  have hen := HEN.out _ hB
  have HE := Lib.hid hen
  clear hen HEN
  go_upto_region 2 with (go_at_call 79; (with_reducible refine HE.out.mono ?_); rintro e w1 ⟨v, rfl, ho, hb⟩)
  obtain ⟨q1, q2⟩ := own_slB ho rfl (by omega)
  have hB1 := hB.trans (hb.mono hB.size)
  have r2 := r1.below hb r1.lt
  have htg := reftagged_any tag (encT l) v w1 q1 q2 hel (by omega)
  have hlen := tagged_length (sb tag) (encT l)
  obtain ⟨D, hD⟩ : ∃ D, tagged (sb tag) (encT l) = D := ⟨_, rfl⟩
  rw [hD] at htg hlen
  have HTG := Lib.hid htg
  have HD := Lib.hid hD
  clear htg hD q1 q2 ho hb HE r0 r1 k0 k1 k2 k3 hB
  go_wp2_with fail
  refine HTG.out.mono ?_
  rintro e w6 ⟨rfl, hb6⟩
  have r3 := r2.below hb6 r2.lt
  have hst6 := store_old D hlen r3
  have hR6 : Row (w6.setRow (w.heap.size + 1) (D.map bv).toArray) (w.heap.size + 1) 58 (D.map bv) := setRow_heap w6 _ _ _ _ _ r3
  have hB7 := below_setRow (hB1.trans (hb6.mono hB1.size)) (Nat.le_succ w.heap.size) (D.map bv).toArray
  generalize w6.setRow (w.heap.size + 1) (D.map bv).toArray = W7 at *
  have HR6 := Lib.hid hR6
  have HB6 := Lib.hid hB7
  clear hb6 hR6 hB7 r2 r3 hB1 HTG
  go_wp2_with fail
  have hinf : (Tryz.prog.info? 58).map (·.size) = some 32 := by kernel_rfl
  exact bodyPost_ret (v := .agg (D.map bv).toArray) (results_cell_row (g := w.heap.size + 1) (t := 58) (fr := (0, 0)) rfl _ _ _ _ rfl HR6.out Tryz.underlying58 rfl (by rw [hinf]; simp [hlen])) rfl ⟨by rw [HD.out], HB6.out⟩
theorem encT_vtO_le {o : Og} (ho : o.ok) : (encT (vtO o)).length ≤ 1099511627000 := by
  have h1 := flatT_length (okT_vtO ho) (vtO o).length (Nat.le_refl _)
  rw [List.take_length] at h1
  have h2 := numeral_length 9 (vtO o).length (by simp [vtO])
  unfold encT
  rw [List.length_append, List.length_cons]
  simp [vtO] at h1 h2 ⊢
  omega
set_option maxRecDepth 100000 in
set_option maxHeartbeats 4000000 in
theorem rcommit14_any (b : Int) (o : Og) (ho : o.ok) (w : World) :
    Calls Tryz.prog 32 #[.int .i64 b, .agg o.cells.toArray] w fun e w' => e = .returned (.agg ((comN (tagOf b) o).map bv).toArray) ∧ Below w.heap.size w w' := by
  have r0 := (Row.new w 60 o.cells).alloc (.cells (List.replicate 32 (Value.int IntKind.u8 0)).toArray 58)
  have r1 := Row.new (w.alloc (.cells o.cells.toArray 60)) 58 (List.replicate 32 (Value.int IntKind.u8 0))
  rw [World.size_alloc] at r1
  have hB := (below_alloc' w (.cells o.cells.toArray 60)).alloc (by simp) (.cells (List.replicate 32 (Value.int IntKind.u8 0)).toArray 58)
  have HVA := Lib.hid (fun w => rvalue14_any o ho w)
  have HTA := Lib.hid (show ∀ (tag : ByteArray) (A : Option Addr) (c : Nat) (w : World), SlT w w.heap.size (.slice A 5 c) (vtO o) → tag.size ≤ 1000 →
    Calls Tryz.prog 61 #[.string tag, listV A 5 c] w fun e w' => e = .returned (.agg ((tagged (sb tag) (encT (vtO o))).map bv).toArray) ∧ Below w.heap.size w w' from fun tag A c w h ht => rtagged13_any tag (vtO o) A c w h (okT_vtO ho) (by simp [vtO]) (encT_vtO_le ho) ht)
  have hcom : comN (tagOf b) o = tagged (sb (tagOf b)) (encT (vtO o)) := rfl
  have hlen := tagged_length (sb (tagOf b)) (encT (vtO o))
  have hsz := sizeOg ho.2
  go_enter Tryz.func32, Tryz.ntmps32
  obtain ⟨W, hW⟩ : ∃ W, (w.alloc (.cells o.cells.toArray 60)).alloc (.cells #[.int .u8 0, .int .u8 0, .int .u8 0, .int .u8 0, .int .u8 0, .int .u8 0, .int .u8 0, .int .u8 0, .int .u8 0, .int .u8 0, .int .u8 0, .int .u8 0, .int .u8 0, .int .u8 0, .int .u8 0, .int .u8 0, .int .u8 0, .int .u8 0, .int .u8 0, .int .u8 0, .int .u8 0, .int .u8 0, .int .u8 0, .int .u8 0, .int .u8 0, .int .u8 0, .int .u8 0, .int .u8 0, .int .u8 0, .int .u8 0, .int .u8 0, .int .u8 0] 58) = W := ⟨_, rfl⟩
  replace r0 : Row W w.heap.size 60 o.cells := by rw [← hW]; exact r0
  replace r1 : Row W (w.heap.size + 1) 58 (List.replicate 32 (Value.int IntKind.u8 0)) := by rw [← hW]; exact r1
  replace hB : Below w.heap.size w W := by rw [← hW]; exact hB
  have hlo := r0.lt
  go_upto_region 1 with fail
  try rw [hW]
  clear hW
  have hrO := range_row r0
  by_cases hb : b = 0
  · subst hb
    have ht : tagOf 0 = ⟨#[108, 101, 102, 116]⟩ := rfl
    rw [ht] at hcom hlen
    obtain ⟨D, hD⟩ : ∃ D, tagged (sb ⟨#[108, 101, 102, 116]⟩) (encT (vtO o)) = D := ⟨_, rfl⟩
    have HC := Lib.hid (show comN (tagOf 0) o = D by rw [← hD]; rfl)
    rw [hD] at hlen
    have HD := Lib.hid hD
    clear hcom hD ht
    go_wp2_with (first
      | (refine wpList_load_row rfl 60 _ rfl w.heap.size 0 o.cells rfl hrO Tryz.underlying60 rfl hsz ?_)
      | (go_at_call 62; (with_reducible refine (HVA.out _).mono ?_); rintro e w1 ⟨A, c, rfl, hsl, hb1⟩)
      | (go_at_call 61; (with_reducible refine (HTA.out ⟨#[108, 101, 102, 116]⟩ A c w1 hsl (by decide)).mono ?_); rintro e w6 ⟨rfl, hb6⟩; rw [HD.out]; have r3 := (r1.below hb1 r1.lt).below hb6 (r1.below hb1 r1.lt).lt; have hst6 := store_old D hlen r3; have hR6 : Row (w6.setRow (w.heap.size + 1) (D.map bv).toArray) (w.heap.size + 1) 58 (D.map bv) := setRow_heap w6 _ _ _ _ _ r3; have hB6 := hB.trans ((hb1.trans (hb6.mono hb1.size)).mono hB.size); have hB7 := below_setRow hB6 (Nat.le_succ w.heap.size) (D.map bv).toArray; generalize w6.setRow (w.heap.size + 1) (D.map bv).toArray = W7 at *; have HR6 := Lib.hid hR6; have HB6 := Lib.hid hB7; clear hR6 hB7 hB6 r3 hb6 hsl hb1 r0 r1))
    have hinf : (Tryz.prog.info? 58).map (·.size) = some 32 := by kernel_rfl
    exact bodyPost_ret (v := .agg (D.map bv).toArray) (results_cell_row (g := w.heap.size + 1) (t := 58) (fr := (0, 0)) rfl _ _ _ _ rfl HR6.out Tryz.underlying58 rfl (by rw [hinf]; simp [hlen])) rfl ⟨by rw [HC.out], HB6.out⟩
  · have hb0 : (b == 0) = false := by simpa using hb
    have ht : tagOf b = ⟨#[114, 105, 103, 104, 116]⟩ := by unfold tagOf; rw [if_neg hb]; rfl
    rw [ht] at hcom hlen
    obtain ⟨D, hD⟩ : ∃ D, tagged (sb ⟨#[114, 105, 103, 104, 116]⟩) (encT (vtO o)) = D := ⟨_, rfl⟩
    have HC := Lib.hid (show comN (tagOf b) o = D by rw [← hD, ← hcom, ht])
    rw [hD] at hlen
    have HD := Lib.hid hD
    clear hcom hD ht hb
    go_wp2_with (first
      | (refine wpList_load_row rfl 60 _ rfl w.heap.size 0 o.cells rfl hrO Tryz.underlying60 rfl hsz ?_)
      | (go_at_call 62; (with_reducible refine (HVA.out _).mono ?_); rintro e w1 ⟨A, c, rfl, hsl, hb1⟩)
      | (go_at_call 61; (with_reducible refine (HTA.out ⟨#[114, 105, 103, 104, 116]⟩ A c w1 hsl (by decide)).mono ?_); rintro e w6 ⟨rfl, hb6⟩; rw [HD.out]; have r3 := (r1.below hb1 r1.lt).below hb6 (r1.below hb1 r1.lt).lt; have hst6 := store_old D hlen r3; have hR6 : Row (w6.setRow (w.heap.size + 1) (D.map bv).toArray) (w.heap.size + 1) 58 (D.map bv) := setRow_heap w6 _ _ _ _ _ r3; have hB6 := hB.trans ((hb1.trans (hb6.mono hb1.size)).mono hB.size); have hB7 := below_setRow hB6 (Nat.le_succ w.heap.size) (D.map bv).toArray; generalize w6.setRow (w.heap.size + 1) (D.map bv).toArray = W7 at *; have HR6 := Lib.hid hR6; have HB6 := Lib.hid hB7; clear hR6 hB7 hB6 r3 hb6 hsl hb1 r0 r1))
    have hinf : (Tryz.prog.info? 58).map (·.size) = some 32 := by kernel_rfl
    exact bodyPost_ret (v := .agg (D.map bv).toArray) (results_cell_row (g := w.heap.size + 1) (t := 58) (fr := (0, 0)) rfl _ _ _ _ rfl HR6.out Tryz.underlying58 rfl (by rw [hinf]; simp [hlen])) rfl ⟨by rw [HC.out], HB6.out⟩
end Go.Proofs.YthboebhghaabnaaGreatDoor

set_option linter.unusedSimpArgs false
set_option linter.unusedVariables false
namespace Go.Proofs.YthboebhghaabnaaGreatDoor
open Go.RowKit Fk Sha
/-! The reference of law 14: Fits. -/
theorem row_heap {w : World} {g : Nat} {t : TypeId} {a : Array Value} (h : w.heap[g]? = some (.cells a t)) : Row w g t a.toList := by
  show w.heap[g]? = _
  rw [h]
theorem eqSe_comm (a b : Se) : eqSe a b = eqSe b a := by
  cases h : eqSe b a with
  | true => rw [eqSe_iff] at h ⊢; exact h.symm
  | false =>
    cases h2 : eqSe a b with
    | false => rfl
    | true => rw [eqSe_iff] at h2; rw [h2, eqSe_self] at h; cases h
theorem fitsB_out {key : Int} {m : Mx} {j : Nat} {b : Int} {o : Og} (h : o.a < 0 ∨ (m.i.length : Int) ≤ o.a) : fitsB key m j b o = false := by
  unfold fitsB
  rcases h with h | h
  · rw [decide_eq_false (show ¬ 0 ≤ o.a by omega)]; rfl
  · rw [decide_eq_false (show ¬ o.a < (m.i.length : Int) by omega), Bool.and_false]; rfl
theorem fitsB_0 {key : Int} {m : Mx} {j p : Nat} {r : Tr} {s : List B} (h : p < m.i.length) : fitsB key m j 0 ⟨p, r, s⟩ = (decide (m.l.getD j default = comN tagL ⟨p, r, s⟩) && eqSe (m.m.getD j default) (againC key (m.i.getD p default) r)) := by
  unfold fitsB
  rw [decide_eq_true (show (0 : Int) ≤ (p : Int) by omega), decide_eq_true (show (p : Int) < m.i.length by omega), eqSe_comm]
  rfl
theorem fitsB_1 {key : Int} {m : Mx} {j p : Nat} {r : Tr} {s : List B} (h : p < m.i.length) : fitsB key m j 1 ⟨p, r, s⟩ = (decide (m.r.getD j default = comN tagR ⟨p, r, s⟩) && eqSe (m.o.getD p default) (againC key (m.m.getD j default) r)) := by
  unfold fitsB
  have h1 : ¬ (1 : Int) = 0 := by decide
  have ht : tagOf 1 = tagR := by unfold tagOf; rw [if_neg h1]
  rw [decide_eq_true (show (0 : Int) ≤ (p : Int) by omega), decide_eq_true (show (p : Int) < m.i.length by omega), if_neg h1, if_neg h1, ht, eqSe_comm]
  rfl
theorem sl_range {α : Type} [Inhabited α] {m : Nat} {enc : α → List Value} {w : World} {B0 n c : Nat} {A : Option Addr} {l : List α} (h : SlG m enc w B0 (.slice A n c) l) {j : Nat} (hj : j < l.length) (hm : (enc (l.getD j default)).length = m) :
    ∃ b off, A = some ⟨b, off, none⟩ ∧ b < B0 ∧ w.rangeAt b (off + j * m) (enc (l.getD j default)) := by
  obtain ⟨b, off, h1, h2, h3⟩ := sl_at h hj
  exact ⟨b, off, h1, h2, range_sl h3 hm⟩
set_option maxRecDepth 100000 in
set_option maxHeartbeats 8000000 in
theorem rfits_out (key : Int) (x : MxA) (m : Mx) (j : Nat) (b : Int) (o : Og) (w : World) (h : MxS w w.heap.size x m) (hmo : MxOK m) (ho : o.ok) (hout : o.a < 0 ∨ (m.i.length : Int) ≤ o.a) :
    Calls Tryz.prog 39 #[.int .i64 key, .agg (x.cells m).toArray, .int .i64 j, .int .i64 b, .agg o.cells.toArray] w fun e w' => e = .returned (.bool false) ∧ Below w.heap.size w w' := by
  obtain ⟨ai, ci, am, cm, ao, co, al, cl, ar, cr⟩ := x
  obtain ⟨hi, hm, hoo, hl, hr⟩ := h
  simp only at hi hm hoo hl hr
  rw [show (MxA.cells ⟨ai, ci, am, cm, ao, co, al, cl, ar, cr⟩ m) = [.slice ai m.i.length ci, .slice am m.m.length cm, .slice ao m.o.length co, .slice al m.l.length cl, .slice ar m.r.length cr] from rfl]
  have r0 := (Row.new w 32 [.slice ai m.i.length ci, .slice am m.m.length cm, .slice ao m.o.length co, .slice al m.l.length cl, .slice ar m.r.length cr]).alloc (.cells o.cells.toArray 60)
  have r1 := Row.new (w.alloc (.cells #[.slice ai m.i.length ci, .slice am m.m.length cm, .slice ao m.o.length co, .slice al m.l.length cl, .slice ar m.r.length cr] 32)) 60 o.cells
  rw [World.size_alloc] at r1
  have hB := (below_alloc' w (.cells #[.slice ai m.i.length ci, .slice am m.m.length cm, .slice ao m.o.length co, .slice al m.l.length cl, .slice ar m.r.length cr] 32)).alloc (by simp) (.cells o.cells.toArray 60)
  go_enter Tryz.func39, Tryz.ntmps39
  obtain ⟨W, hW⟩ : ∃ W, (w.alloc (.cells #[.slice ai m.i.length ci, .slice am m.m.length cm, .slice ao m.o.length co, .slice al m.l.length cl, .slice ar m.r.length cr] 32)).alloc (.cells o.cells.toArray 60) = W := ⟨_, rfl⟩
  replace r0 : Row W w.heap.size 32 [.slice ai m.i.length ci, .slice am m.m.length cm, .slice ao m.o.length co, .slice al m.l.length cl, .slice ar m.r.length cr] := hW ▸ r0
  rw [hW] at r1 hB
  go_upto_region 1 with fail
  try rw [show _ = W from hW]
  clear hW
  obtain ⟨m0, m1, m2, m3, m4⟩ := st5c r0
  have o0 : W.cell? ⟨w.heap.size + 1, 0, none⟩ = some (.int .i64 o.a) := r1.cell 0
  have hlo := r1.lt
  by_cases g0 : o.a < 0
  · go_wp2_with fail
    go_ret
    exact ⟨rfl, hB⟩
  · have g1 : (m.i.length : Int) ≤ o.a := by omega
    go_wp2_with fail
    go_ret
    exact ⟨rfl, hB⟩
set_option maxRecDepth 100000 in
set_option maxHeartbeats 8000000 in
theorem rfits_0 (key : Int) (x : MxA) (m : Mx) (j : Nat) (o : Og) (w : World) (h : MxS w w.heap.size x m) (hmo : MxOK m) (ho : o.ok) (hin : 0 ≤ o.a ∧ o.a < m.i.length) (hj : j < m.m.length ∧ j < m.l.length) :
    Calls Tryz.prog 39 #[.int .i64 key, .agg (x.cells m).toArray, .int .i64 j, .int .i64 0, .agg o.cells.toArray] w fun e w' => e = .returned (.bool (fitsB key m j 0 o)) ∧ Below w.heap.size w w' := by
  obtain ⟨ai, ci, am, cm, ao, co, al, cl, ar, cr⟩ := x
  obtain ⟨hi, hm, hoo, hl, hr⟩ := h
  simp only at hi hm hoo hl hr
  rw [show (MxA.cells ⟨ai, ci, am, cm, ao, co, al, cl, ar, cr⟩ m) = [.slice ai m.i.length ci, .slice am m.m.length cm, .slice ao m.o.length co, .slice al m.l.length cl, .slice ar m.r.length cr] from rfl]
  have r0 := (Row.new w 32 [.slice ai m.i.length ci, .slice am m.m.length cm, .slice ao m.o.length co, .slice al m.l.length cl, .slice ar m.r.length cr]).alloc (.cells o.cells.toArray 60)
  have r1 := Row.new (w.alloc (.cells #[.slice ai m.i.length ci, .slice am m.m.length cm, .slice ao m.o.length co, .slice al m.l.length cl, .slice ar m.r.length cr] 32)) 60 o.cells
  rw [World.size_alloc] at r1
  have hB := (below_alloc' w (.cells #[.slice ai m.i.length ci, .slice am m.m.length cm, .slice ao m.o.length co, .slice al m.l.length cl, .slice ar m.r.length cr] 32)).alloc (by simp) (.cells o.cells.toArray 60)
  obtain ⟨a, r, s⟩ := o
  obtain ⟨p, rfl⟩ : ∃ p : Nat, a = (p : Int) := ⟨a.toNat, by simp only at hin; omega⟩
  have hp : p < m.i.length := by simp only at hin; omega
  have hf := fitsB_0 (key := key) (j := j) (r := r) (s := s) hp
  have RC := Lib.hid (fun w => rcommit14_any 0 ⟨p, r, s⟩ ho w)
  have hsz := sizeOg ho.2
  have hcl : (comN tagL ⟨p, r, s⟩).length = 32 := tagged_length _ _
  obtain ⟨bi, oi, rfl, hbi, ei⟩ := sl_range hi hp rfl
  obtain ⟨bm, om, rfl, hbm, em⟩ := sl_range hm hj.1 rfl
  obtain ⟨bl, ol, rfl, hbl, el⟩ := sl_range hl hj.2 (by unfold encD; rw [List.length_map]; exact hmo.l j hj.2)
  have hdl : (m.l.getD j default).length = 32 := hmo.l j hj.2
  obtain ⟨D, hD⟩ : ∃ D, m.l.getD j default = D := ⟨_, rfl⟩
  obtain ⟨X, hX⟩ : ∃ X, m.i.getD p default = X := ⟨_, rfl⟩
  obtain ⟨Z, hZ⟩ : ∃ Z, m.m.getD j default = Z := ⟨_, rfl⟩
  rw [hX] at hf ei
  rw [hZ] at hf em
  rw [hD] at hf el hdl
  have s1 : (p : Int) < m.i.length := by omega
  have s2 : (0 : Int) ≤ p := by omega
  have s3 : (j : Int) < m.m.length := by omega
  have s4 : (0 : Int) ≤ j := by omega
  have s5 : (j : Int) < m.l.length := by omega
  have AG := Lib.hid (fun w => ragain_any key X r w)
  obtain ⟨Y, hY⟩ : ∃ Y, againC key X r = Y := ⟨_, rfl⟩
  obtain ⟨E, hE⟩ : ∃ E, againE key X = E := ⟨_, rfl⟩
  rw [hY] at hf
  have AG := Lib.hid (fun w => by have := AG.out w; rw [hY, hE] at this; unfold Se.val Tr.val at this; exact this)
  have hcm : comN (tagOf 0) ⟨p, r, s⟩ = comN tagL ⟨p, r, s⟩ := rfl
  obtain ⟨C, hC⟩ : ∃ C, comN tagL ⟨p, r, s⟩ = C := ⟨_, rfl⟩
  rw [hC] at hf hcl hcm
  have RC := Lib.hid (fun w => by have := RC.out w; rw [hcm] at this; exact this)
  have bq1 := fun w => runD 9998 D C hdl hcl w
  have bq2 := fun w => runS Z Y w
  have HF := Lib.hid hf
  clear hf hD hX hZ hY hE hC hcm hmo ho hi hm hoo hl hr
  obtain ⟨o, hoe⟩ : ∃ o : Og, (⟨p, r, s⟩ : Og) = o := ⟨_, rfl⟩
  have q0 : o.a = p := by rw [← hoe]
  have q1 : o.r = r := by rw [← hoe]
  rw [hoe] at RC HF hsz r0 r1 hB ⊢
  have HO := Lib.hid hoe
  clear hoe
  go_enter Tryz.func39, Tryz.ntmps39
  obtain ⟨W, hW⟩ : ∃ W, (w.alloc (.cells #[.slice (some ⟨bi, oi, none⟩) m.i.length ci, .slice (some ⟨bm, om, none⟩) m.m.length cm, .slice ao m.o.length co, .slice (some ⟨bl, ol, none⟩) m.l.length cl, .slice ar m.r.length cr] 32)).alloc (.cells o.cells.toArray 60) = W := ⟨_, rfl⟩
  replace r0 : Row W w.heap.size 32 [.slice (some ⟨bi, oi, none⟩) m.i.length ci, .slice (some ⟨bm, om, none⟩) m.m.length cm, .slice ao m.o.length co, .slice (some ⟨bl, ol, none⟩) m.l.length cl, .slice ar m.r.length cr] := hW ▸ r0
  rw [hW] at r1 hB
  go_upto_region 1 with fail
  try rw [show _ = W from hW]
  clear hW
  obtain ⟨m0, m1, m2, m3, m4⟩ := st5c r0
  have o0 : W.cell? ⟨w.heap.size + 1, 0, none⟩ = some (.int .i64 o.a) := r1.cell 0
  have hlo := r1.lt
  rw [q0] at o0
  have h1 : W.rangeAt (w.heap.size + 1) 1 (Tr.cells r) := fun k v hk => by
    have hk3 : k < 3 := (List.getElem?_eq_some_iff.1 hk).1
    rw [r1.cell, show 1 + k = k + 1 by omega]
    show ([.int .i64 o.r.p, .int .i64 o.r.q, .int .i64 o.r.r] ++ o.s.map bv : List Value)[k]? = _
    rw [q1, List.getElem?_append_left (by exact hk3)]
    exact hk
  have hlo0 : w.heap.size < W.heap.size := by omega
  have hi6 : (Tryz.prog.info? 45).map (·.size) = some 6 := by kernel_rfl
  have hi3 : (Tryz.prog.info? 56).map (·.size) = some 3 := by kernel_rfl
  have ei' := range_below ei hB hbi
  have em' := range_below em hB hbm
  have el' := range_below el hB hbl
  have hbi' : bi < W.heap.size := by omega
  have hbm' : bm < W.heap.size := by omega
  have hbl' : bl < W.heap.size := by omega
  clear ei em el
  unfold Se.val at bq2
  have g0 : ¬ ((p : Int) < 0) := by omega
  have g1 : ¬ ((m.i.length : Int) ≤ p) := by omega
  go_upto_region 4 with fail
  refine wp_region_detA 14 13 11 [12] (fun w' => Below W.heap.size W w') (.cells #[.int .i64 0, .int .i64 0, .int .i64 0, .int .i64 0, .int .i64 0, .int .i64 0] 45) (fun b => .pointer (some ⟨b, 0, none⟩)) (by kernel_rfl) (by kernel_rfl) (fun _ _ d _ _ h => by cases d <;> exact h) (Below.refl _ _).drew (fun w o h => h.alloc h.size o) ?_
  iterate 6
    refine wpDetA_take (v := ?_) (by decide) rfl (by kernel_rfl) (fun w' hSw => ?_) ?_
    rotate_left 1
    · have c0 := (hSw.cell (p := ⟨w.heap.size, 0, none⟩) hlo0).trans m0
      have c2 := (hSw.cell (p := ⟨w.heap.size + 1, 0, none⟩) hlo).trans o0
      go_simp
      with_reducible rfl
    simp only [Act.put, List.getElem_toArray, List.getElem_cons_succ, List.getElem_cons_zero, List.setIfInBounds_toArray, List.set_cons_zero, List.set_cons_succ]
  refine wpDetA_take (v := .agg #[.int .i64 X.x.a, .int .i64 X.x.b, .int .i64 X.y.a, .int .i64 X.y.b, .int .i64 X.z.a, .int .i64 X.z.b]) (by decide) rfl (by kernel_rfl) (fun w' hSw => exec_load (ty := 45) (x := .tmp 34) (p := .pointer (some ⟨bi, oi + p * 6, none⟩)) (by kernel_rfl) (by kernel_rfl) (run_loadAt_mid w' (bi) (oi + p * 6) 45 _ _ (range_below ei' hSw hbi') Tryz.underlying45 rfl hi6)) ?_
  simp only [Act.put, List.getElem_toArray, List.getElem_cons_succ, List.getElem_cons_zero, List.setIfInBounds_toArray, List.set_cons_zero, List.set_cons_succ]
  refine wpDetA_take (v := ?_) (by decide) rfl (by kernel_rfl) (fun w' hSw => ?_) ?_
  rotate_left 1
  · skip
    go_simp
    with_reducible rfl
  simp only [Act.put, List.getElem_toArray, List.getElem_cons_succ, List.getElem_cons_zero, List.setIfInBounds_toArray, List.set_cons_zero, List.set_cons_succ]
  refine wpDetA_take (v := .agg #[.int .i64 r.p, .int .i64 r.q, .int .i64 r.r]) (by decide) rfl (by kernel_rfl) (fun w' hSw => exec_load (ty := 56) (x := .tmp 36) (p := .pointer (some ⟨w.heap.size + 1, 1, none⟩)) (by kernel_rfl) (by kernel_rfl) (run_loadAt_mid w' (w.heap.size + 1) (1) 56 _ _ (range_below h1 hSw hlo) Tryz.underlying56 rfl hi3)) ?_
  simp only [Act.put, List.getElem_toArray, List.getElem_cons_succ, List.getElem_cons_zero, List.setIfInBounds_toArray, List.set_cons_zero, List.set_cons_succ]
  refine wpDetA_call (v := .tuple #[.agg #[.int .i64 Y.x.a, .int .i64 Y.x.b, .int .i64 Y.y.a, .int .i64 Y.y.b, .int .i64 Y.z.a, .int .i64 Y.z.b], .int .i64 E]) (by decide) rfl (by kernel_rfl) (fun w' hSw K hK => ?_) ?_
  · go_simp
    go_at_call 31
    refine (AG.out _).mono ?_
    rintro e w1 ⟨rfl, hb⟩
    exact hK _ (hSw.trans (hb.mono hSw.size)) hb
  simp only [Act.put, List.getElem_toArray, List.getElem_cons_succ, List.getElem_cons_zero, List.setIfInBounds_toArray, List.set_cons_zero, List.set_cons_succ]
  iterate 2
    refine wpDetA_take (v := ?_) (by decide) rfl (by kernel_rfl) (fun w' hSw => ?_) ?_
    rotate_left 1
    · skip
      go_simp
      with_reducible rfl
    simp only [Act.put, List.getElem_toArray, List.getElem_cons_succ, List.getElem_cons_zero, List.setIfInBounds_toArray, List.set_cons_zero, List.set_cons_succ]
  refine wpDetA_free (v := ?_) (by decide) rfl (by kernel_rfl) (fun w' => ?_) ?_
  rotate_left 1
  · go_simp
    with_reducible rfl
  simp only [Act.put, List.getElem_toArray, List.getElem_cons_succ, List.getElem_cons_zero, List.setIfInBounds_toArray, List.set_cons_zero, List.set_cons_succ]
  refine wpDetA_lay rfl rfl (fun a w => by go_simp) ?_
  simp only [Act.put, List.getElem_toArray, List.getElem_cons_succ, List.getElem_cons_zero, List.setIfInBounds_toArray, List.set_cons_zero, List.set_cons_succ]
  refine wpDetA_done ?_
  intro g w2 hS2 hg2 hgz hb2
  simp only [List.drop_succ_cons, List.drop_zero, Act.put, List.getElem_toArray, List.getElem_cons_succ, List.getElem_cons_zero, List.setIfInBounds_toArray, List.set_cons_zero, List.set_cons_succ]
  have rz := row_heap hg2
  obtain ⟨z0, z1, z2, z3, z4, z5⟩ := st6 rz
  have ff := fun i => Row.frozen rz i
  have hzz := rz.lt
  replace hgz : W.heap.size ≤ g := hgz
  have rf := (((((rz.store 0 (.int .i64 Y.x.a)).store 1 (.int .i64 Y.x.b)).store 2 (.int .i64 Y.y.a)).store 3 (.int .i64 Y.y.b)).store 4 (.int .i64 Y.z.a)).store 5 (.int .i64 Y.z.b)
  have hbf := (((((hS2.setCell (p := ⟨g, 0, none⟩) hgz (.int .i64 Y.x.a)).setCell (p := ⟨g, 1, none⟩) hgz (.int .i64 Y.x.b)).setCell (p := ⟨g, 2, none⟩) hgz (.int .i64 Y.y.a)).setCell (p := ⟨g, 3, none⟩) hgz (.int .i64 Y.y.b)).setCell (p := ⟨g, 4, none⟩) hgz (.int .i64 Y.z.a)).setCell (p := ⟨g, 5, none⟩) hgz (.int .i64 Y.z.b)
  have FIN := Lib.hid (And.intro rf hbf)
  clear rf hbf hS2 hb2 hg2
  go_upto_region 5 with fail
  obtain ⟨rf, hbf⟩ := FIN.out
  clear FIN rz z0 z1 z2 z3 z4 z5 ff AG
  obtain ⟨W3, hW3⟩ : ∃ W3, (((((w2.setCell ⟨g, 0, none⟩ (.int .i64 Y.x.a)).setCell ⟨g, 1, none⟩ (.int .i64 Y.x.b)).setCell ⟨g, 2, none⟩ (.int .i64 Y.y.a)).setCell ⟨g, 3, none⟩ (.int .i64 Y.y.b)).setCell ⟨g, 4, none⟩ (.int .i64 Y.z.a)).setCell ⟨g, 5, none⟩ (.int .i64 Y.z.b) = W3 := ⟨_, rfl⟩
  rw [hW3] at rf hbf
  try rw [show _ = W3 from hW3]
  clear hW3 hzz
  replace rf : Row W3 g 45 (encS Y) := rf
  have hgl := rf.lt
  by_cases hdq : D = C
  · rw [show decide (D = C) = true from decide_eq_true hdq] at bq1 HF
    subst hdq
    refine wp_region_det 17 (fun w' => Below W3.heap.size W3 w') (by kernel_rfl) (by kernel_rfl) (Below.refl _ _).drew ?_
    have hz3 := hbf.size
    iterate 4
      refine wpDet_take (v := ?_) rfl (by kernel_rfl) (fun w' hSw => ?_) ?_
      rotate_left 1
      · have c0 := (hSw.cell (p := ⟨w.heap.size, 3, none⟩) (by simp only []; omega)).trans ((hbf.cell (p := ⟨w.heap.size, 3, none⟩) hlo0).trans m3)
        go_simp
        with_reducible rfl
      simp only [Act.put, List.getElem_toArray, List.getElem_cons_succ, List.getElem_cons_zero, List.setIfInBounds_toArray, List.set_cons_zero, List.set_cons_succ]
    refine wpDet_take (v := .agg (D.map bv).toArray) rfl (by kernel_rfl) (fun w' hSw => exec_load (ty := 58) (x := .tmp 44) (p := .pointer (some ⟨bl, ol + j * 32, none⟩)) (by kernel_rfl) (by kernel_rfl) (run_loadAt_mid w' (bl) (ol + j * 32) 58 _ _ (range_below (range_below el' hbf hbl') hSw (by omega)) Tryz.underlying58 rfl (sizeDg hdl))) ?_
    simp only [Act.put, List.getElem_toArray, List.getElem_cons_succ, List.getElem_cons_zero, List.setIfInBounds_toArray, List.set_cons_zero, List.set_cons_succ]
    refine wpDet_take (v := .agg o.cells.toArray) rfl (by kernel_rfl) (fun w' hSw => exec_load (ty := 60) (x := .tmp 9) (p := .pointer (some ⟨w.heap.size + 1, 0, none⟩)) (by kernel_rfl) (by kernel_rfl) (run_loadAt_mid w' (w.heap.size + 1) (0) 60 _ _ (range_below (range_below (range_row r1) hbf hlo) hSw (by omega)) Tryz.underlying60 rfl hsz)) ?_
    simp only [Act.put, List.getElem_toArray, List.getElem_cons_succ, List.getElem_cons_zero, List.setIfInBounds_toArray, List.set_cons_zero, List.set_cons_succ]
    refine wpDet_call (v := .agg (D.map bv).toArray) rfl (by kernel_rfl) (fun w' hSw K hK => ?_) ?_
    · go_simp
      go_at_call 32
      refine (RC.out _).mono ?_
      rintro e w1 ⟨rfl, hb⟩
      exact hK _ (hSw.trans (hb.mono hSw.size))
    simp only [Act.put, List.getElem_toArray, List.getElem_cons_succ, List.getElem_cons_zero, List.setIfInBounds_toArray, List.set_cons_zero, List.set_cons_succ]
    iterate 2
      refine wpDet_take (v := ?_) rfl (by kernel_rfl) (fun w' hSw => ?_) ?_
      rotate_left 1
      · skip
        go_simp
        with_reducible rfl
      simp only [Act.put, List.getElem_toArray, List.getElem_cons_succ, List.getElem_cons_zero, List.setIfInBounds_toArray, List.set_cons_zero, List.set_cons_succ]
    iterate 4
      refine wpDet_take (v := ?_) rfl (by kernel_rfl) (fun w' hSw => ?_) ?_
      rotate_left 1
      · have c0 := (hSw.cell (p := ⟨w.heap.size, 1, none⟩) (by simp only []; omega)).trans ((hbf.cell (p := ⟨w.heap.size, 1, none⟩) hlo0).trans m1)
        have c1 := (hSw.cell (p := ⟨w.heap.size + 1, 0, none⟩) (by simp only []; omega)).trans ((hbf.cell (p := ⟨w.heap.size + 1, 0, none⟩) hlo).trans o0)
        go_simp
        with_reducible rfl
      simp only [Act.put, List.getElem_toArray, List.getElem_cons_succ, List.getElem_cons_zero, List.setIfInBounds_toArray, List.set_cons_zero, List.set_cons_succ]
    refine wpDet_take (v := .agg #[.int .i64 Z.x.a, .int .i64 Z.x.b, .int .i64 Z.y.a, .int .i64 Z.y.b, .int .i64 Z.z.a, .int .i64 Z.z.b]) rfl (by kernel_rfl) (fun w' hSw => exec_load (ty := 45) (x := .tmp 53) (p := .pointer (some ⟨bm, om + j * 6, none⟩)) (by kernel_rfl) (by kernel_rfl) (run_loadAt_mid w' (bm) (om + j * 6) 45 _ _ (range_below (range_below em' hbf hbm') hSw (by omega)) Tryz.underlying45 rfl hi6)) ?_
    simp only [Act.put, List.getElem_toArray, List.getElem_cons_succ, List.getElem_cons_zero, List.setIfInBounds_toArray, List.set_cons_zero, List.set_cons_succ]
    refine wpDet_take (v := .agg #[.int .i64 Y.x.a, .int .i64 Y.x.b, .int .i64 Y.y.a, .int .i64 Y.y.b, .int .i64 Y.z.a, .int .i64 Y.z.b]) rfl (by kernel_rfl) (fun w' hSw => exec_load (ty := 45) (x := .tmp 11) (p := .pointer (some ⟨g, 0, none⟩)) (by kernel_rfl) (by kernel_rfl) (run_loadAt_mid w' (g) (0) 45 _ _ (range_below (range_row rf) hSw hgl) Tryz.underlying45 rfl hi6)) ?_
    simp only [Act.put, List.getElem_toArray, List.getElem_cons_succ, List.getElem_cons_zero, List.setIfInBounds_toArray, List.set_cons_zero, List.set_cons_succ]
    iterate 2
      refine wpDet_take (v := ?_) rfl (by kernel_rfl) (fun w' hSw => ?_) ?_
      rotate_left 1
      · skip
        go_simp
        with_reducible rfl
      simp only [Act.put, List.getElem_toArray, List.getElem_cons_succ, List.getElem_cons_zero, List.setIfInBounds_toArray, List.set_cons_zero, List.set_cons_succ]
    refine wpDet_done ?_
    intro w4 hS4
    simp only [List.drop_succ_cons, List.drop_zero]
    have hB4 := hB.trans ((hbf.trans (hS4.mono hbf.size)).mono hB.size)
    go_wp2_with fail
    go_ret
    exact ⟨by rw [HF.out]; rfl, hB4⟩
  · rw [show decide (D = C) = false from decide_eq_false hdq] at bq1 HF
    clear hdq
    refine wp_region_det 17 (fun w' => Below W3.heap.size W3 w') (by kernel_rfl) (by kernel_rfl) (Below.refl _ _).drew ?_
    have hz3 := hbf.size
    iterate 4
      refine wpDet_take (v := ?_) rfl (by kernel_rfl) (fun w' hSw => ?_) ?_
      rotate_left 1
      · have c0 := (hSw.cell (p := ⟨w.heap.size, 3, none⟩) (by simp only []; omega)).trans ((hbf.cell (p := ⟨w.heap.size, 3, none⟩) hlo0).trans m3)
        go_simp
        with_reducible rfl
      simp only [Act.put, List.getElem_toArray, List.getElem_cons_succ, List.getElem_cons_zero, List.setIfInBounds_toArray, List.set_cons_zero, List.set_cons_succ]
    refine wpDet_take (v := .agg (D.map bv).toArray) rfl (by kernel_rfl) (fun w' hSw => exec_load (ty := 58) (x := .tmp 44) (p := .pointer (some ⟨bl, ol + j * 32, none⟩)) (by kernel_rfl) (by kernel_rfl) (run_loadAt_mid w' (bl) (ol + j * 32) 58 _ _ (range_below (range_below el' hbf hbl') hSw (by omega)) Tryz.underlying58 rfl (sizeDg hdl))) ?_
    simp only [Act.put, List.getElem_toArray, List.getElem_cons_succ, List.getElem_cons_zero, List.setIfInBounds_toArray, List.set_cons_zero, List.set_cons_succ]
    refine wpDet_take (v := .agg o.cells.toArray) rfl (by kernel_rfl) (fun w' hSw => exec_load (ty := 60) (x := .tmp 9) (p := .pointer (some ⟨w.heap.size + 1, 0, none⟩)) (by kernel_rfl) (by kernel_rfl) (run_loadAt_mid w' (w.heap.size + 1) (0) 60 _ _ (range_below (range_below (range_row r1) hbf hlo) hSw (by omega)) Tryz.underlying60 rfl hsz)) ?_
    simp only [Act.put, List.getElem_toArray, List.getElem_cons_succ, List.getElem_cons_zero, List.setIfInBounds_toArray, List.set_cons_zero, List.set_cons_succ]
    refine wpDet_call (v := .agg (C.map bv).toArray) rfl (by kernel_rfl) (fun w' hSw K hK => ?_) ?_
    · go_simp
      go_at_call 32
      refine (RC.out _).mono ?_
      rintro e w1 ⟨rfl, hb⟩
      exact hK _ (hSw.trans (hb.mono hSw.size))
    simp only [Act.put, List.getElem_toArray, List.getElem_cons_succ, List.getElem_cons_zero, List.setIfInBounds_toArray, List.set_cons_zero, List.set_cons_succ]
    iterate 2
      refine wpDet_take (v := ?_) rfl (by kernel_rfl) (fun w' hSw => ?_) ?_
      rotate_left 1
      · skip
        go_simp
        with_reducible rfl
      simp only [Act.put, List.getElem_toArray, List.getElem_cons_succ, List.getElem_cons_zero, List.setIfInBounds_toArray, List.set_cons_zero, List.set_cons_succ]
    iterate 7
      refine wpDet_skip rfl (by kernel_rfl) ?_
      simp only [Act.put, List.getElem_toArray, List.getElem_cons_succ, List.getElem_cons_zero, List.setIfInBounds_toArray, List.set_cons_zero, List.set_cons_succ]
    refine wpDet_take (v := ?_) rfl (by kernel_rfl) (fun w' hSw => ?_) ?_
    rotate_left 1
    · skip
      go_simp
      with_reducible rfl
    simp only [Act.put, List.getElem_toArray, List.getElem_cons_succ, List.getElem_cons_zero, List.setIfInBounds_toArray, List.set_cons_zero, List.set_cons_succ]
    refine wpDet_done ?_
    intro w4 hS4
    simp only [List.drop_succ_cons, List.drop_zero]
    have hB4 := hB.trans ((hbf.trans (hS4.mono hbf.size)).mono hB.size)
    go_wp2_with fail
    go_ret
    exact ⟨by rw [HF.out]; rfl, hB4⟩
set_option maxRecDepth 100000 in
set_option maxHeartbeats 8000000 in
theorem rfits_1 (key : Int) (x : MxA) (m : Mx) (j : Nat) (o : Og) (w : World) (h : MxS w w.heap.size x m) (hmo : MxOK m) (ho : o.ok) (hin : 0 ≤ o.a ∧ o.a < m.i.length) (hj : j < m.m.length ∧ j < m.r.length) (hlen : m.o.length = m.i.length) :
    Calls Tryz.prog 39 #[.int .i64 key, .agg (x.cells m).toArray, .int .i64 j, .int .i64 1, .agg o.cells.toArray] w fun e w' => e = .returned (.bool (fitsB key m j 1 o)) ∧ Below w.heap.size w w' := by
  obtain ⟨ai, ci, am, cm, ao, co, al, cl, ar, cr⟩ := x
  obtain ⟨hi, hm, hoo, hl, hr⟩ := h
  simp only at hi hm hoo hl hr
  rw [show (MxA.cells ⟨ai, ci, am, cm, ao, co, al, cl, ar, cr⟩ m) = [.slice ai m.i.length ci, .slice am m.m.length cm, .slice ao m.o.length co, .slice al m.l.length cl, .slice ar m.r.length cr] from rfl]
  have r0 := (Row.new w 32 [.slice ai m.i.length ci, .slice am m.m.length cm, .slice ao m.o.length co, .slice al m.l.length cl, .slice ar m.r.length cr]).alloc (.cells o.cells.toArray 60)
  have r1 := Row.new (w.alloc (.cells #[.slice ai m.i.length ci, .slice am m.m.length cm, .slice ao m.o.length co, .slice al m.l.length cl, .slice ar m.r.length cr] 32)) 60 o.cells
  rw [World.size_alloc] at r1
  have hB := (below_alloc' w (.cells #[.slice ai m.i.length ci, .slice am m.m.length cm, .slice ao m.o.length co, .slice al m.l.length cl, .slice ar m.r.length cr] 32)).alloc (by simp) (.cells o.cells.toArray 60)
  obtain ⟨a, r, s⟩ := o
  obtain ⟨p, rfl⟩ : ∃ p : Nat, a = (p : Int) := ⟨a.toNat, by simp only at hin; omega⟩
  have hp : p < m.i.length := by simp only at hin; omega
  have hf := fitsB_1 (key := key) (j := j) (r := r) (s := s) hp
  have RC := Lib.hid (fun w => rcommit14_any 1 ⟨p, r, s⟩ ho w)
  have hsz := sizeOg ho.2
  have hcl : (comN tagR ⟨p, r, s⟩).length = 32 := tagged_length _ _
  obtain ⟨bi, oi, rfl, hbi, ei⟩ := sl_range hm hj.1 rfl
  obtain ⟨bm, om, rfl, hbm, em⟩ := sl_range hoo (j := p) (by omega) rfl
  obtain ⟨bl, ol, rfl, hbl, el⟩ := sl_range hr hj.2 (by unfold encD; rw [List.length_map]; exact hmo.r j hj.2)
  have hdl : (m.r.getD j default).length = 32 := hmo.r j hj.2
  obtain ⟨D, hD⟩ : ∃ D, m.r.getD j default = D := ⟨_, rfl⟩
  obtain ⟨X, hX⟩ : ∃ X, m.m.getD j default = X := ⟨_, rfl⟩
  obtain ⟨Z, hZ⟩ : ∃ Z, m.o.getD p default = Z := ⟨_, rfl⟩
  rw [hX] at hf ei
  rw [hZ] at hf em
  rw [hD] at hf el hdl
  have s1 : (j : Int) < m.m.length := by omega
  have s2 : (0 : Int) ≤ j := by omega
  have s3 : (p : Int) < m.o.length := by omega
  have s4 : (0 : Int) ≤ p := by omega
  have s5 : (j : Int) < m.r.length := by omega
  have s6 : (p : Int) < m.i.length := by omega
  clear hlen
  have AG := Lib.hid (fun w => ragain_any key X r w)
  obtain ⟨Y, hY⟩ : ∃ Y, againC key X r = Y := ⟨_, rfl⟩
  obtain ⟨E, hE⟩ : ∃ E, againE key X = E := ⟨_, rfl⟩
  rw [hY] at hf
  have AG := Lib.hid (fun w => by have := AG.out w; rw [hY, hE] at this; unfold Se.val Tr.val at this; exact this)
  have hcm : comN (tagOf 1) ⟨p, r, s⟩ = comN tagR ⟨p, r, s⟩ := rfl
  obtain ⟨C, hC⟩ : ∃ C, comN tagR ⟨p, r, s⟩ = C := ⟨_, rfl⟩
  rw [hC] at hf hcl hcm
  have RC := Lib.hid (fun w => by have := RC.out w; rw [hcm] at this; exact this)
  have bq1 := fun w => runD 9998 D C hdl hcl w
  have bq2 := fun w => runS Z Y w
  have HF := Lib.hid hf
  clear hf hD hX hZ hY hE hC hcm hmo ho hi hm hoo hl hr
  obtain ⟨o, hoe⟩ : ∃ o : Og, (⟨p, r, s⟩ : Og) = o := ⟨_, rfl⟩
  have q0 : o.a = p := by rw [← hoe]
  have q1 : o.r = r := by rw [← hoe]
  rw [hoe] at RC HF hsz r0 r1 hB ⊢
  have HO := Lib.hid hoe
  clear hoe
  go_enter Tryz.func39, Tryz.ntmps39
  obtain ⟨W, hW⟩ : ∃ W, (w.alloc (.cells #[.slice ai m.i.length ci, .slice (some ⟨bi, oi, none⟩) m.m.length cm, .slice (some ⟨bm, om, none⟩) m.o.length co, .slice al m.l.length cl, .slice (some ⟨bl, ol, none⟩) m.r.length cr] 32)).alloc (.cells o.cells.toArray 60) = W := ⟨_, rfl⟩
  replace r0 : Row W w.heap.size 32 [.slice ai m.i.length ci, .slice (some ⟨bi, oi, none⟩) m.m.length cm, .slice (some ⟨bm, om, none⟩) m.o.length co, .slice al m.l.length cl, .slice (some ⟨bl, ol, none⟩) m.r.length cr] := hW ▸ r0
  rw [hW] at r1 hB
  go_upto_region 1 with fail
  try rw [show _ = W from hW]
  clear hW
  obtain ⟨m0, m1, m2, m3, m4⟩ := st5c r0
  have o0 : W.cell? ⟨w.heap.size + 1, 0, none⟩ = some (.int .i64 o.a) := r1.cell 0
  have hlo := r1.lt
  rw [q0] at o0
  have h1 : W.rangeAt (w.heap.size + 1) 1 (Tr.cells r) := fun k v hk => by
    have hk3 : k < 3 := (List.getElem?_eq_some_iff.1 hk).1
    rw [r1.cell, show 1 + k = k + 1 by omega]
    show ([.int .i64 o.r.p, .int .i64 o.r.q, .int .i64 o.r.r] ++ o.s.map bv : List Value)[k]? = _
    rw [q1, List.getElem?_append_left (by exact hk3)]
    exact hk
  have hlo0 : w.heap.size < W.heap.size := by omega
  have hi6 : (Tryz.prog.info? 45).map (·.size) = some 6 := by kernel_rfl
  have hi3 : (Tryz.prog.info? 56).map (·.size) = some 3 := by kernel_rfl
  have ei' := range_below ei hB hbi
  have em' := range_below em hB hbm
  have el' := range_below el hB hbl
  have hbi' : bi < W.heap.size := by omega
  have hbm' : bm < W.heap.size := by omega
  have hbl' : bl < W.heap.size := by omega
  clear ei em el
  unfold Se.val at bq2
  have g0 : ¬ ((p : Int) < 0) := by omega
  have g1 : ¬ ((m.i.length : Int) ≤ p) := by omega
  go_upto_region 6 with fail
  refine wp_region_detA 13 12 13 [11] (fun w' => Below W.heap.size W w') (.cells #[.int .i64 0, .int .i64 0, .int .i64 0, .int .i64 0, .int .i64 0, .int .i64 0] 45) (fun b => .pointer (some ⟨b, 0, none⟩)) (by kernel_rfl) (by kernel_rfl) (fun _ _ d _ _ h => by cases d <;> exact h) (Below.refl _ _).drew (fun w o h => h.alloc h.size o) ?_
  iterate 5
    refine wpDetA_take (v := ?_) (by decide) rfl (by kernel_rfl) (fun w' hSw => ?_) ?_
    rotate_left 1
    · have c0 := (hSw.cell (p := ⟨w.heap.size, 1, none⟩) hlo0).trans m1
      have c2 := (hSw.cell (p := ⟨w.heap.size + 1, 0, none⟩) hlo).trans o0
      go_simp
      with_reducible rfl
    simp only [Act.put, List.getElem_toArray, List.getElem_cons_succ, List.getElem_cons_zero, List.setIfInBounds_toArray, List.set_cons_zero, List.set_cons_succ]
  refine wpDetA_take (v := .agg #[.int .i64 X.x.a, .int .i64 X.x.b, .int .i64 X.y.a, .int .i64 X.y.b, .int .i64 X.z.a, .int .i64 X.z.b]) (by decide) rfl (by kernel_rfl) (fun w' hSw => exec_load (ty := 45) (x := .tmp 63) (p := .pointer (some ⟨bi, oi + j * 6, none⟩)) (by kernel_rfl) (by kernel_rfl) (run_loadAt_mid w' (bi) (oi + j * 6) 45 _ _ (range_below ei' hSw hbi') Tryz.underlying45 rfl hi6)) ?_
  simp only [Act.put, List.getElem_toArray, List.getElem_cons_succ, List.getElem_cons_zero, List.setIfInBounds_toArray, List.set_cons_zero, List.set_cons_succ]
  refine wpDetA_take (v := ?_) (by decide) rfl (by kernel_rfl) (fun w' hSw => ?_) ?_
  rotate_left 1
  · skip
    go_simp
    with_reducible rfl
  simp only [Act.put, List.getElem_toArray, List.getElem_cons_succ, List.getElem_cons_zero, List.setIfInBounds_toArray, List.set_cons_zero, List.set_cons_succ]
  refine wpDetA_take (v := .agg #[.int .i64 r.p, .int .i64 r.q, .int .i64 r.r]) (by decide) rfl (by kernel_rfl) (fun w' hSw => exec_load (ty := 56) (x := .tmp 65) (p := .pointer (some ⟨w.heap.size + 1, 1, none⟩)) (by kernel_rfl) (by kernel_rfl) (run_loadAt_mid w' (w.heap.size + 1) (1) 56 _ _ (range_below h1 hSw hlo) Tryz.underlying56 rfl hi3)) ?_
  simp only [Act.put, List.getElem_toArray, List.getElem_cons_succ, List.getElem_cons_zero, List.setIfInBounds_toArray, List.set_cons_zero, List.set_cons_succ]
  refine wpDetA_call (v := .tuple #[.agg #[.int .i64 Y.x.a, .int .i64 Y.x.b, .int .i64 Y.y.a, .int .i64 Y.y.b, .int .i64 Y.z.a, .int .i64 Y.z.b], .int .i64 E]) (by decide) rfl (by kernel_rfl) (fun w' hSw K hK => ?_) ?_
  · go_simp
    go_at_call 31
    refine (AG.out _).mono ?_
    rintro e w1 ⟨rfl, hb⟩
    exact hK _ (hSw.trans (hb.mono hSw.size)) hb
  simp only [Act.put, List.getElem_toArray, List.getElem_cons_succ, List.getElem_cons_zero, List.setIfInBounds_toArray, List.set_cons_zero, List.set_cons_succ]
  iterate 2
    refine wpDetA_take (v := ?_) (by decide) rfl (by kernel_rfl) (fun w' hSw => ?_) ?_
    rotate_left 1
    · skip
      go_simp
      with_reducible rfl
    simp only [Act.put, List.getElem_toArray, List.getElem_cons_succ, List.getElem_cons_zero, List.setIfInBounds_toArray, List.set_cons_zero, List.set_cons_succ]
  refine wpDetA_free (v := ?_) (by decide) rfl (by kernel_rfl) (fun w' => ?_) ?_
  rotate_left 1
  · go_simp
    with_reducible rfl
  simp only [Act.put, List.getElem_toArray, List.getElem_cons_succ, List.getElem_cons_zero, List.setIfInBounds_toArray, List.set_cons_zero, List.set_cons_succ]
  refine wpDetA_lay rfl rfl (fun a w => by go_simp) ?_
  simp only [Act.put, List.getElem_toArray, List.getElem_cons_succ, List.getElem_cons_zero, List.setIfInBounds_toArray, List.set_cons_zero, List.set_cons_succ]
  refine wpDetA_done ?_
  intro g w2 hS2 hg2 hgz hb2
  simp only [List.drop_succ_cons, List.drop_zero, Act.put, List.getElem_toArray, List.getElem_cons_succ, List.getElem_cons_zero, List.setIfInBounds_toArray, List.set_cons_zero, List.set_cons_succ]
  have rz := row_heap hg2
  obtain ⟨z0, z1, z2, z3, z4, z5⟩ := st6 rz
  have ff := fun i => Row.frozen rz i
  have hzz := rz.lt
  replace hgz : W.heap.size ≤ g := hgz
  have rf := (((((rz.store 0 (.int .i64 Y.x.a)).store 1 (.int .i64 Y.x.b)).store 2 (.int .i64 Y.y.a)).store 3 (.int .i64 Y.y.b)).store 4 (.int .i64 Y.z.a)).store 5 (.int .i64 Y.z.b)
  have hbf := (((((hS2.setCell (p := ⟨g, 0, none⟩) hgz (.int .i64 Y.x.a)).setCell (p := ⟨g, 1, none⟩) hgz (.int .i64 Y.x.b)).setCell (p := ⟨g, 2, none⟩) hgz (.int .i64 Y.y.a)).setCell (p := ⟨g, 3, none⟩) hgz (.int .i64 Y.y.b)).setCell (p := ⟨g, 4, none⟩) hgz (.int .i64 Y.z.a)).setCell (p := ⟨g, 5, none⟩) hgz (.int .i64 Y.z.b)
  have FIN := Lib.hid (And.intro rf hbf)
  clear rf hbf hS2 hb2 hg2
  go_upto_region 7 with fail
  obtain ⟨rf, hbf⟩ := FIN.out
  clear FIN rz z0 z1 z2 z3 z4 z5 ff AG
  obtain ⟨W3, hW3⟩ : ∃ W3, (((((w2.setCell ⟨g, 0, none⟩ (.int .i64 Y.x.a)).setCell ⟨g, 1, none⟩ (.int .i64 Y.x.b)).setCell ⟨g, 2, none⟩ (.int .i64 Y.y.a)).setCell ⟨g, 3, none⟩ (.int .i64 Y.y.b)).setCell ⟨g, 4, none⟩ (.int .i64 Y.z.a)).setCell ⟨g, 5, none⟩ (.int .i64 Y.z.b) = W3 := ⟨_, rfl⟩
  rw [hW3] at rf hbf
  try rw [show _ = W3 from hW3]
  clear hW3 hzz
  replace rf : Row W3 g 45 (encS Y) := rf
  have hgl := rf.lt
  by_cases hdq : D = C
  · rw [show decide (D = C) = true from decide_eq_true hdq] at bq1 HF
    subst hdq
    refine wp_region_det 18 (fun w' => Below W3.heap.size W3 w') (by kernel_rfl) (by kernel_rfl) (Below.refl _ _).drew ?_
    have hz3 := hbf.size
    iterate 4
      refine wpDet_take (v := ?_) rfl (by kernel_rfl) (fun w' hSw => ?_) ?_
      rotate_left 1
      · have c0 := (hSw.cell (p := ⟨w.heap.size, 4, none⟩) (by simp only []; omega)).trans ((hbf.cell (p := ⟨w.heap.size, 4, none⟩) hlo0).trans m4)
        go_simp
        with_reducible rfl
      simp only [Act.put, List.getElem_toArray, List.getElem_cons_succ, List.getElem_cons_zero, List.setIfInBounds_toArray, List.set_cons_zero, List.set_cons_succ]
    refine wpDet_take (v := .agg (D.map bv).toArray) rfl (by kernel_rfl) (fun w' hSw => exec_load (ty := 58) (x := .tmp 73) (p := .pointer (some ⟨bl, ol + j * 32, none⟩)) (by kernel_rfl) (by kernel_rfl) (run_loadAt_mid w' (bl) (ol + j * 32) 58 _ _ (range_below (range_below el' hbf hbl') hSw (by omega)) Tryz.underlying58 rfl (sizeDg hdl))) ?_
    simp only [Act.put, List.getElem_toArray, List.getElem_cons_succ, List.getElem_cons_zero, List.setIfInBounds_toArray, List.set_cons_zero, List.set_cons_succ]
    refine wpDet_take (v := .agg o.cells.toArray) rfl (by kernel_rfl) (fun w' hSw => exec_load (ty := 60) (x := .tmp 9) (p := .pointer (some ⟨w.heap.size + 1, 0, none⟩)) (by kernel_rfl) (by kernel_rfl) (run_loadAt_mid w' (w.heap.size + 1) (0) 60 _ _ (range_below (range_below (range_row r1) hbf hlo) hSw (by omega)) Tryz.underlying60 rfl hsz)) ?_
    simp only [Act.put, List.getElem_toArray, List.getElem_cons_succ, List.getElem_cons_zero, List.setIfInBounds_toArray, List.set_cons_zero, List.set_cons_succ]
    refine wpDet_call (v := .agg (D.map bv).toArray) rfl (by kernel_rfl) (fun w' hSw K hK => ?_) ?_
    · go_simp
      go_at_call 32
      refine (RC.out _).mono ?_
      rintro e w1 ⟨rfl, hb⟩
      exact hK _ (hSw.trans (hb.mono hSw.size))
    simp only [Act.put, List.getElem_toArray, List.getElem_cons_succ, List.getElem_cons_zero, List.setIfInBounds_toArray, List.set_cons_zero, List.set_cons_succ]
    iterate 2
      refine wpDet_take (v := ?_) rfl (by kernel_rfl) (fun w' hSw => ?_) ?_
      rotate_left 1
      · skip
        go_simp
        with_reducible rfl
      simp only [Act.put, List.getElem_toArray, List.getElem_cons_succ, List.getElem_cons_zero, List.setIfInBounds_toArray, List.set_cons_zero, List.set_cons_succ]
    iterate 5
      refine wpDet_take (v := ?_) rfl (by kernel_rfl) (fun w' hSw => ?_) ?_
      rotate_left 1
      · have c0 := (hSw.cell (p := ⟨w.heap.size, 2, none⟩) (by simp only []; omega)).trans ((hbf.cell (p := ⟨w.heap.size, 2, none⟩) hlo0).trans m2)
        have c1 := (hSw.cell (p := ⟨w.heap.size + 1, 0, none⟩) (by simp only []; omega)).trans ((hbf.cell (p := ⟨w.heap.size + 1, 0, none⟩) hlo).trans o0)
        go_simp
        with_reducible rfl
      simp only [Act.put, List.getElem_toArray, List.getElem_cons_succ, List.getElem_cons_zero, List.setIfInBounds_toArray, List.set_cons_zero, List.set_cons_succ]
    refine wpDet_take (v := .agg #[.int .i64 Z.x.a, .int .i64 Z.x.b, .int .i64 Z.y.a, .int .i64 Z.y.b, .int .i64 Z.z.a, .int .i64 Z.z.b]) rfl (by kernel_rfl) (fun w' hSw => exec_load (ty := 45) (x := .tmp 83) (p := .pointer (some ⟨bm, om + p * 6, none⟩)) (by kernel_rfl) (by kernel_rfl) (run_loadAt_mid w' (bm) (om + p * 6) 45 _ _ (range_below (range_below em' hbf hbm') hSw (by omega)) Tryz.underlying45 rfl hi6)) ?_
    simp only [Act.put, List.getElem_toArray, List.getElem_cons_succ, List.getElem_cons_zero, List.setIfInBounds_toArray, List.set_cons_zero, List.set_cons_succ]
    refine wpDet_take (v := .agg #[.int .i64 Y.x.a, .int .i64 Y.x.b, .int .i64 Y.y.a, .int .i64 Y.y.b, .int .i64 Y.z.a, .int .i64 Y.z.b]) rfl (by kernel_rfl) (fun w' hSw => exec_load (ty := 45) (x := .tmp 13) (p := .pointer (some ⟨g, 0, none⟩)) (by kernel_rfl) (by kernel_rfl) (run_loadAt_mid w' (g) (0) 45 _ _ (range_below (range_row rf) hSw hgl) Tryz.underlying45 rfl hi6)) ?_
    simp only [Act.put, List.getElem_toArray, List.getElem_cons_succ, List.getElem_cons_zero, List.setIfInBounds_toArray, List.set_cons_zero, List.set_cons_succ]
    iterate 2
      refine wpDet_take (v := ?_) rfl (by kernel_rfl) (fun w' hSw => ?_) ?_
      rotate_left 1
      · skip
        go_simp
        with_reducible rfl
      simp only [Act.put, List.getElem_toArray, List.getElem_cons_succ, List.getElem_cons_zero, List.setIfInBounds_toArray, List.set_cons_zero, List.set_cons_succ]
    refine wpDet_done ?_
    intro w4 hS4
    simp only [List.drop_succ_cons, List.drop_zero]
    have hB4 := hB.trans ((hbf.trans (hS4.mono hbf.size)).mono hB.size)
    go_wp2_with fail
    go_ret
    exact ⟨by rw [HF.out]; rfl, hB4⟩
  · rw [show decide (D = C) = false from decide_eq_false hdq] at bq1 HF
    clear hdq
    refine wp_region_det 18 (fun w' => Below W3.heap.size W3 w') (by kernel_rfl) (by kernel_rfl) (Below.refl _ _).drew ?_
    have hz3 := hbf.size
    iterate 4
      refine wpDet_take (v := ?_) rfl (by kernel_rfl) (fun w' hSw => ?_) ?_
      rotate_left 1
      · have c0 := (hSw.cell (p := ⟨w.heap.size, 4, none⟩) (by simp only []; omega)).trans ((hbf.cell (p := ⟨w.heap.size, 4, none⟩) hlo0).trans m4)
        go_simp
        with_reducible rfl
      simp only [Act.put, List.getElem_toArray, List.getElem_cons_succ, List.getElem_cons_zero, List.setIfInBounds_toArray, List.set_cons_zero, List.set_cons_succ]
    refine wpDet_take (v := .agg (D.map bv).toArray) rfl (by kernel_rfl) (fun w' hSw => exec_load (ty := 58) (x := .tmp 73) (p := .pointer (some ⟨bl, ol + j * 32, none⟩)) (by kernel_rfl) (by kernel_rfl) (run_loadAt_mid w' (bl) (ol + j * 32) 58 _ _ (range_below (range_below el' hbf hbl') hSw (by omega)) Tryz.underlying58 rfl (sizeDg hdl))) ?_
    simp only [Act.put, List.getElem_toArray, List.getElem_cons_succ, List.getElem_cons_zero, List.setIfInBounds_toArray, List.set_cons_zero, List.set_cons_succ]
    refine wpDet_take (v := .agg o.cells.toArray) rfl (by kernel_rfl) (fun w' hSw => exec_load (ty := 60) (x := .tmp 9) (p := .pointer (some ⟨w.heap.size + 1, 0, none⟩)) (by kernel_rfl) (by kernel_rfl) (run_loadAt_mid w' (w.heap.size + 1) (0) 60 _ _ (range_below (range_below (range_row r1) hbf hlo) hSw (by omega)) Tryz.underlying60 rfl hsz)) ?_
    simp only [Act.put, List.getElem_toArray, List.getElem_cons_succ, List.getElem_cons_zero, List.setIfInBounds_toArray, List.set_cons_zero, List.set_cons_succ]
    refine wpDet_call (v := .agg (C.map bv).toArray) rfl (by kernel_rfl) (fun w' hSw K hK => ?_) ?_
    · go_simp
      go_at_call 32
      refine (RC.out _).mono ?_
      rintro e w1 ⟨rfl, hb⟩
      exact hK _ (hSw.trans (hb.mono hSw.size))
    simp only [Act.put, List.getElem_toArray, List.getElem_cons_succ, List.getElem_cons_zero, List.setIfInBounds_toArray, List.set_cons_zero, List.set_cons_succ]
    iterate 2
      refine wpDet_take (v := ?_) rfl (by kernel_rfl) (fun w' hSw => ?_) ?_
      rotate_left 1
      · skip
        go_simp
        with_reducible rfl
      simp only [Act.put, List.getElem_toArray, List.getElem_cons_succ, List.getElem_cons_zero, List.setIfInBounds_toArray, List.set_cons_zero, List.set_cons_succ]
    iterate 8
      refine wpDet_skip rfl (by kernel_rfl) ?_
      simp only [Act.put, List.getElem_toArray, List.getElem_cons_succ, List.getElem_cons_zero, List.setIfInBounds_toArray, List.set_cons_zero, List.set_cons_succ]
    refine wpDet_take (v := ?_) rfl (by kernel_rfl) (fun w' hSw => ?_) ?_
    rotate_left 1
    · skip
      go_simp
      with_reducible rfl
    simp only [Act.put, List.getElem_toArray, List.getElem_cons_succ, List.getElem_cons_zero, List.setIfInBounds_toArray, List.set_cons_zero, List.set_cons_succ]
    refine wpDet_done ?_
    intro w4 hS4
    simp only [List.drop_succ_cons, List.drop_zero]
    have hB4 := hB.trans ((hbf.trans (hS4.mono hbf.size)).mono hB.size)
    go_wp2_with fail
    go_ret
    exact ⟨by rw [HF.out]; rfl, hB4⟩
theorem rfits_any (key : Int) (x : MxA) (m : Mx) (j : Nat) (b : Int) (o : Og) (w : World) (h : MxS w w.heap.size x m) (hmo : MxOK m) (ho : o.ok) (hb : b = 0 ∨ b = 1) (hj : j < m.i.length) (h1 : m.m.length = m.i.length) (h2 : m.o.length = m.i.length) (h3 : m.l.length = m.i.length) (h4 : m.r.length = m.i.length) :
    Calls Tryz.prog 39 #[.int .i64 key, .agg (x.cells m).toArray, .int .i64 j, .int .i64 b, .agg o.cells.toArray] w fun e w' => e = .returned (.bool (fitsB key m j b o)) ∧ Below w.heap.size w w' := by
  by_cases hin : 0 ≤ o.a ∧ o.a < m.i.length
  · rcases hb with rfl | rfl
    · exact rfits_0 key x m j o w h hmo ho hin ⟨by omega, by omega⟩
    · exact rfits_1 key x m j o w h hmo ho hin ⟨by omega, by omega⟩ h2
  · have hout : o.a < 0 ∨ (m.i.length : Int) ≤ o.a := by omega
    rw [fitsB_out hout]
    exact rfits_out key x m j b o w h hmo ho hout
end Go.Proofs.YthboebhghaabnaaGreatDoor

set_option linter.unusedSimpArgs false
set_option linter.unusedVariables false
namespace Go.Proofs.YthboebhghaabnaaGreatDoor
open Go.RowKit Fk Sha
/-! The reference of law 14: Check. -/
theorem places_snoc (bits : List Int) (l : List Og) (k : Nat) : placesTo bits l (k + 1) = placesTo bits l k ++ [(bits.getD k default, (l.getD k default).a)] := by
  unfold placesTo
  rw [List.range_succ, List.map_append]
  rfl
theorem places_new {bits : List Int} {l : List Og} {k : Nat} (h : (placesTo bits l k).Nodup) (hn : ∀ i, i < k → ¬ (bits.getD i default = bits.getD k default ∧ (l.getD i default).a = (l.getD k default).a)) : (placesTo bits l (k + 1)).Nodup := by
  rw [places_snoc, List.nodup_append]
  refine ⟨h, by simp, fun a ha b hb e => ?_⟩
  simp only [List.mem_singleton] at hb
  subst hb
  unfold placesTo at ha
  rw [List.mem_map] at ha
  obtain ⟨i, hi, hi2⟩ := ha
  rw [List.mem_range] at hi
  rw [e] at hi2
  injection hi2 with h1 h2
  exact hn i hi ⟨h1, h2⟩
theorem places_dup {bits : List Int} {l : List Og} {n i k : Nat} (hik : i < k) (hk : k < n) (h : bits.getD i default = bits.getD k default ∧ (l.getD i default).a = (l.getD k default).a) : ¬ (placesTo bits l n).Nodup := fun hN => by
  have hl : (placesTo bits l n).length = n := by unfold placesTo; simp
  have e : ∀ j, (hj : j < n) → (placesTo bits l n)[j]? = some (bits.getD j default, (l.getD j default).a) := fun j hj => by
    unfold placesTo
    rw [List.getElem?_map, List.getElem?_range hj]; rfl
  have := nodup_inj hN (i := i) (j := k) (by omega) (by omega) (by rw [List.getD_eq_getElem?_getD, List.getD_eq_getElem?_getD, e i (by omega), e k hk, h.1, h.2])
  omega
theorem chk_fits {key : Int} {m : Mx} {bits : List Int} {l : List Og} {k : Nat} (hk : k < m.i.length) (h : fitsB key m k (bits.getD k default) (l.getD k default) = false) : checkB key m bits l = false := by
  unfold checkB
  have : (List.range m.i.length).all (fun j => fitsB key m j (bits.getD j default) (l.getD j default)) = false := by
    rw [Bool.eq_false_iff]
    intro hA
    have := List.all_eq_true.1 hA k (List.mem_range.2 hk)
    rw [h] at this
    cases this
  rw [this]
  simp
theorem chk_dup {key : Int} {m : Mx} {bits : List Int} {l : List Og} (h : ¬ (placesTo bits l m.i.length).Nodup) : checkB key m bits l = false := by
  unfold checkB
  rw [decide_eq_false h]
  simp
theorem chk_yes {key : Int} {m : Mx} {bits : List Int} {l : List Og} (h1 : longB m bits l = true) (h2 : formB key m bits = true) (h3 : ∀ j, j < m.i.length → fitsB key m j (bits.getD j default) (l.getD j default) = true) (h4 : (placesTo bits l m.i.length).Nodup) : checkB key m bits l = true := by
  unfold checkB
  rw [h1, h2, decide_eq_true h4]
  simp only [Bool.true_and, Bool.and_true]
  exact List.all_eq_true.2 fun j hj => h3 j (List.mem_range.1 hj)
theorem chk_long {key : Int} {m : Mx} {bits : List Int} {l : List Og} (h : longB m bits l = false) : checkB key m bits l = false := by unfold checkB; rw [h]; rfl
theorem chk_form {key : Int} {m : Mx} {bits : List Int} {l : List Og} (h : formB key m bits = false) : checkB key m bits l = false := by unfold checkB; rw [h]; simp
set_option maxRecDepth 100000 in
set_option maxHeartbeats 20000000 in
theorem rcheck14_any (key : Int) (x : MxA) (m : Mx) (bits : List Int) (l : List Og) (v v1 : Value) (w : World) (h : MxS w w.heap.size x m) (hb : SlI w w.heap.size v bits) (hl : SlG 36 Og.cells w w.heap.size v1 l)
    (hmo : MxOK m) (hlo : ∀ i, i < l.length → (l.getD i default).ok) :
    Calls Tryz.prog 13 #[.int .i64 key, .agg (x.cells m).toArray, v, v1] w fun e w' => e = .returned (.bool (checkB key m bits l)) ∧ Below w.heap.size w w' := by
  have hL : longB m bits l = (decide (m.m.length = m.i.length) && (decide (m.o.length = m.i.length) && (decide (m.l.length = m.i.length) && (decide (m.r.length = m.i.length) && (decide (bits.length = m.i.length) && decide (l.length = m.i.length)))))) := rfl
  have hF : formB key m bits = (vld key && (decide (m.i.length ≤ 64) && (m.i.all okS && (m.m.all okS && (m.o.all okS && bits.all bitB))))) := rfl
  have q1 := fun w => refvalid_any key w
  have q2 := fun (w' : World) (hb' : Below w.heap.size w w') => rformed10_any m.i _ w' ((h.i.below hb').mono hb'.size)
  have q3 := fun (w' : World) (hb' : Below w.heap.size w w') => rformed10_any m.m _ w' ((h.m.below hb').mono hb'.size)
  have q4 := fun (w' : World) (hb' : Below w.heap.size w w') => rformed10_any m.o _ w' ((h.o.below hb').mono hb'.size)
  have q5 := fun (w' : World) (hb' : Below w.heap.size w w') => rbits_any bits v w' ((hb.below hb').mono hb'.size)
  have q6 := fun (j : Nat) (o : Og) (ho : o.ok) (b : Int) (hb01 : b = 0 ∨ b = 1) (hj : j < m.i.length) (h1 : m.m.length = m.i.length) (h2 : m.o.length = m.i.length) (h3 : m.l.length = m.i.length) (h4 : m.r.length = m.i.length) (w' : World) (hb' : Below w.heap.size w w') =>
    rfits_any key x m j b o w' ⟨(h.i.below hb').mono hb'.size, (h.m.below hb').mono hb'.size, (h.o.below hb').mono hb'.size, (h.l.below hb').mono hb'.size, (h.r.below hb').mono hb'.size⟩ hmo ho hb01 hj h1 h2 h3 h4
  obtain ⟨_, A, c, rfl, _⟩ := id hb
  obtain ⟨_, A1, c1, rfl, _⟩ := id hl
  obtain ⟨ai, ci, am, cm, ao, co, al, cl, ar, cr⟩ := x
  simp only at q2 q3 q4
  rw [show (MxA.cells ⟨ai, ci, am, cm, ao, co, al, cl, ar, cr⟩ m) = [.slice ai m.i.length ci, .slice am m.m.length cm, .slice ao m.o.length co, .slice al m.l.length cl, .slice ar m.r.length cr] from rfl] at q6 ⊢
  have HSB := Lib.hid hb
  have HSL := Lib.hid hl
  have HLO := Lib.hid hlo
  have Q1 := Lib.hid q1
  have Q2 := Lib.hid q2
  have Q3 := Lib.hid q3
  have Q4 := Lib.hid q4
  have Q5 := Lib.hid q5
  have Q6 := Lib.hid q6
  have hB := below_alloc' w (.cells #[.slice ai m.i.length ci, .slice am m.m.length cm, .slice ao m.o.length co, .slice al m.l.length cl, .slice ar m.r.length cr] 32)
  have r0 := Row.new w 32 [.slice ai m.i.length ci, .slice am m.m.length cm, .slice ao m.o.length co, .slice al m.l.length cl, .slice ar m.r.length cr]
  obtain ⟨W, hW⟩ : ∃ W, w.alloc (.cells #[.slice ai m.i.length ci, .slice am m.m.length cm, .slice ao m.o.length co, .slice al m.l.length cl, .slice ar m.r.length cr] 32) = W := ⟨_, rfl⟩
  replace r0 : Row W w.heap.size 32 [.slice ai m.i.length ci, .slice am m.m.length cm, .slice ao m.o.length co, .slice al m.l.length cl, .slice ar m.r.length cr] := hW ▸ r0
  rw [hW] at hB
  obtain ⟨m0, m1, m2, m3, m4⟩ := st5c r0
  have hlo0 := r0.lt
  clear q1 q2 q3 q4 q5 q6 h hb hl hmo hlo
  cases f0 : vld key with
  | false =>
    rw [f0] at Q1
    have HR := Lib.hid (chk_form (l := l) (show formB key m bits = false by rw [hF, f0]; rfl))
    clear hL hF
    go_enter Tryz.func13, Tryz.ntmps13
    go_upto_region 1 with fail
    try rw [hW]
    clear hW
    go_wp2_with (go_at_call 28; (with_reducible refine (Q1.out _).mono ?_); rintro e w1 ⟨rfl, rfl⟩)
    go_ret
    exact ⟨ret_bool HR.out.symm, hB⟩
  | true =>
  rw [f0] at Q1
  by_cases f1 : ¬ m.i.length ≤ 64
  · have HR := Lib.hid (chk_form (l := l) (show formB key m bits = false by rw [hF, decide_eq_false f1]; simp))
    have g1 : (64 : Int) < m.i.length := by omega
    clear hL hF f1
    go_enter Tryz.func13, Tryz.ntmps13
    go_upto_region 1 with fail
    try rw [hW]
    clear hW
    go_wp2_with (go_at_call 28; (with_reducible refine (Q1.out _).mono ?_); rintro e w1 ⟨rfl, rfl⟩)
    go_ret
    exact ⟨ret_bool HR.out.symm, hB⟩
  have f1' : m.i.length ≤ 64 := by omega
  have g1 : ¬ (64 : Int) < m.i.length := by omega
  clear f1
  by_cases e0 : ¬ m.m.length = m.i.length
  · have HR := Lib.hid (chk_long (key := key) (show longB m bits l = false by rw [hL, decide_eq_false e0]; simp))
    have k0 : ((m.m.length : Int) != m.i.length) = true := by rw [bne_iff_ne]; omega
    clear hL hF e0
    go_enter Tryz.func13, Tryz.ntmps13
    go_upto_region 1 with fail
    try rw [hW]
    clear hW
    go_wp2_with (go_at_call 28; (with_reducible refine (Q1.out _).mono ?_); rintro e w1 ⟨rfl, rfl⟩)
    go_ret
    exact ⟨ret_bool HR.out.symm, hB⟩
  have D0 := Lib.hid (show m.m.length = m.i.length by omega)
  have k0 : ((m.m.length : Int) != m.i.length) = false := by rw [bne_eq_false_iff_eq]; omega
  clear e0
  by_cases e1 : ¬ m.o.length = m.i.length
  · have HR := Lib.hid (chk_long (key := key) (show longB m bits l = false by rw [hL, decide_eq_false e1]; simp))
    have k1 : ((m.o.length : Int) != m.i.length) = true := by rw [bne_iff_ne]; omega
    clear hL hF e1
    go_enter Tryz.func13, Tryz.ntmps13
    go_upto_region 1 with fail
    try rw [hW]
    clear hW
    go_wp2_with (go_at_call 28; (with_reducible refine (Q1.out _).mono ?_); rintro e w1 ⟨rfl, rfl⟩)
    go_ret
    exact ⟨ret_bool HR.out.symm, hB⟩
  have D1 := Lib.hid (show m.o.length = m.i.length by omega)
  have k1 : ((m.o.length : Int) != m.i.length) = false := by rw [bne_eq_false_iff_eq]; omega
  clear e1
  by_cases e2 : ¬ m.l.length = m.i.length
  · have HR := Lib.hid (chk_long (key := key) (show longB m bits l = false by rw [hL, decide_eq_false e2]; simp))
    have k2 : ((m.l.length : Int) != m.i.length) = true := by rw [bne_iff_ne]; omega
    clear hL hF e2
    go_enter Tryz.func13, Tryz.ntmps13
    go_upto_region 1 with fail
    try rw [hW]
    clear hW
    go_wp2_with (go_at_call 28; (with_reducible refine (Q1.out _).mono ?_); rintro e w1 ⟨rfl, rfl⟩)
    go_ret
    exact ⟨ret_bool HR.out.symm, hB⟩
  have D2 := Lib.hid (show m.l.length = m.i.length by omega)
  have k2 : ((m.l.length : Int) != m.i.length) = false := by rw [bne_eq_false_iff_eq]; omega
  clear e2
  by_cases e3 : ¬ m.r.length = m.i.length
  · have HR := Lib.hid (chk_long (key := key) (show longB m bits l = false by rw [hL, decide_eq_false e3]; simp))
    have k3 : ((m.r.length : Int) != m.i.length) = true := by rw [bne_iff_ne]; omega
    clear hL hF e3
    go_enter Tryz.func13, Tryz.ntmps13
    go_upto_region 1 with fail
    try rw [hW]
    clear hW
    go_wp2_with (go_at_call 28; (with_reducible refine (Q1.out _).mono ?_); rintro e w1 ⟨rfl, rfl⟩)
    go_ret
    exact ⟨ret_bool HR.out.symm, hB⟩
  have D3 := Lib.hid (show m.r.length = m.i.length by omega)
  have k3 : ((m.r.length : Int) != m.i.length) = false := by rw [bne_eq_false_iff_eq]; omega
  clear e3
  by_cases e4 : ¬ bits.length = m.i.length
  · have HR := Lib.hid (chk_long (key := key) (show longB m bits l = false by rw [hL, decide_eq_false e4]; simp))
    have k4 : ((bits.length : Int) != m.i.length) = true := by rw [bne_iff_ne]; omega
    clear hL hF e4
    go_enter Tryz.func13, Tryz.ntmps13
    go_upto_region 1 with fail
    try rw [hW]
    clear hW
    go_wp2_with (go_at_call 28; (with_reducible refine (Q1.out _).mono ?_); rintro e w1 ⟨rfl, rfl⟩)
    go_ret
    exact ⟨ret_bool HR.out.symm, hB⟩
  have D4 := Lib.hid (show bits.length = m.i.length by omega)
  have k4 : ((bits.length : Int) != m.i.length) = false := by rw [bne_eq_false_iff_eq]; omega
  clear e4
  by_cases e5 : ¬ l.length = m.i.length
  · have HR := Lib.hid (chk_long (key := key) (show longB m bits l = false by rw [hL, decide_eq_false e5]; simp))
    have k5 : ((l.length : Int) != m.i.length) = true := by rw [bne_iff_ne]; omega
    clear hL hF e5
    go_enter Tryz.func13, Tryz.ntmps13
    go_upto_region 1 with fail
    try rw [hW]
    clear hW
    go_wp2_with (go_at_call 28; (with_reducible refine (Q1.out _).mono ?_); rintro e w1 ⟨rfl, rfl⟩)
    go_ret
    exact ⟨ret_bool HR.out.symm, hB⟩
  have D5 := Lib.hid (show l.length = m.i.length by omega)
  have k5 : ((l.length : Int) != m.i.length) = false := by rw [bne_eq_false_iff_eq]; omega
  clear e5
  have hLt : longB m bits l = true := by rw [hL, decide_eq_true D0.out, decide_eq_true D1.out, decide_eq_true D2.out, decide_eq_true D3.out, decide_eq_true D4.out, decide_eq_true D5.out]; rfl
  have HLT := Lib.hid hLt
  have HD := Lib.hid (And.intro D0.out (And.intro D1.out (And.intro D2.out (And.intro D3.out (And.intro D4.out D5.out)))))
  clear hL hLt D0 D1 D2 D3 D4 D5
  cases f2 : m.i.all okS with
  | false =>
    rw [f2] at Q2
    have HR := Lib.hid (chk_form (l := l) (show formB key m bits = false by rw [hF, f2]; simp))
    clear hF
    go_enter Tryz.func13, Tryz.ntmps13
    go_upto_region 1 with fail
    try rw [hW]
    clear hW
    go_wp2_with (first
      | (go_at_call 28; (with_reducible refine (Q1.out _).mono ?_); rintro e w1 ⟨rfl, rfl⟩)
      | (go_at_call 29; (with_reducible refine (Q2.out _ hB).mono ?_); rintro e w2 ⟨rfl, hb⟩; replace r0 := r0.below hb r0.lt; replace hB := hB.trans (hb.mono hB.size); have hlo0 := r0.lt; clear hb m0 m1 m2 m3 m4; obtain ⟨m0, m1, m2, m3, m4⟩ := st5c r0))
    go_ret
    exact ⟨ret_bool HR.out.symm, hB⟩
  | true =>
  rw [f2] at Q2
  cases f3 : m.m.all okS with
  | false =>
    rw [f3] at Q3
    have HR := Lib.hid (chk_form (l := l) (show formB key m bits = false by rw [hF, f3]; simp))
    clear hF
    go_enter Tryz.func13, Tryz.ntmps13
    go_upto_region 1 with fail
    try rw [hW]
    clear hW
    go_wp2_with (first
      | (go_at_call 28; (with_reducible refine (Q1.out _).mono ?_); rintro e w1 ⟨rfl, rfl⟩)
      | (go_at_call 29; (with_reducible refine (Q2.out _ hB).mono ?_); rintro e w2 ⟨rfl, hb⟩; replace r0 := r0.below hb r0.lt; replace hB := hB.trans (hb.mono hB.size); have hlo0 := r0.lt; clear hb m0 m1 m2 m3 m4; obtain ⟨m0, m1, m2, m3, m4⟩ := st5c r0)
      | (go_at_call 29; (with_reducible refine (Q3.out _ hB).mono ?_); rintro e w3 ⟨rfl, hb⟩; replace r0 := r0.below hb r0.lt; replace hB := hB.trans (hb.mono hB.size); have hlo0 := r0.lt; clear hb m0 m1 m2 m3 m4; obtain ⟨m0, m1, m2, m3, m4⟩ := st5c r0))
    go_ret
    exact ⟨ret_bool HR.out.symm, hB⟩
  | true =>
  rw [f3] at Q3
  cases f4 : m.o.all okS with
  | false =>
    rw [f4] at Q4
    have HR := Lib.hid (chk_form (l := l) (show formB key m bits = false by rw [hF, f4]; simp))
    clear hF
    go_enter Tryz.func13, Tryz.ntmps13
    go_upto_region 1 with fail
    try rw [hW]
    clear hW
    go_wp2_with (first
      | (go_at_call 28; (with_reducible refine (Q1.out _).mono ?_); rintro e w1 ⟨rfl, rfl⟩)
      | (go_at_call 29; (with_reducible refine (Q2.out _ hB).mono ?_); rintro e w2 ⟨rfl, hb⟩; replace r0 := r0.below hb r0.lt; replace hB := hB.trans (hb.mono hB.size); have hlo0 := r0.lt; clear hb m0 m1 m2 m3 m4; obtain ⟨m0, m1, m2, m3, m4⟩ := st5c r0)
      | (go_at_call 29; (with_reducible refine (Q3.out _ hB).mono ?_); rintro e w3 ⟨rfl, hb⟩; replace r0 := r0.below hb r0.lt; replace hB := hB.trans (hb.mono hB.size); have hlo0 := r0.lt; clear hb m0 m1 m2 m3 m4; obtain ⟨m0, m1, m2, m3, m4⟩ := st5c r0)
      | (go_at_call 29; (with_reducible refine (Q4.out _ hB).mono ?_); rintro e w4 ⟨rfl, hb⟩; replace r0 := r0.below hb r0.lt; replace hB := hB.trans (hb.mono hB.size); have hlo0 := r0.lt; clear hb m0 m1 m2 m3 m4; obtain ⟨m0, m1, m2, m3, m4⟩ := st5c r0))
    go_ret
    exact ⟨ret_bool HR.out.symm, hB⟩
  | true =>
  rw [f4] at Q4
  cases f5 : bits.all bitB with
  | false =>
    rw [f5] at Q5
    have HR := Lib.hid (chk_form (l := l) (show formB key m bits = false by rw [hF, f5]; simp))
    clear hF
    go_enter Tryz.func13, Tryz.ntmps13
    go_upto_region 1 with fail
    try rw [hW]
    clear hW
    go_wp2_with (first
      | (go_at_call 28; (with_reducible refine (Q1.out _).mono ?_); rintro e w1 ⟨rfl, rfl⟩)
      | (go_at_call 29; (with_reducible refine (Q2.out _ hB).mono ?_); rintro e w2 ⟨rfl, hb⟩; replace r0 := r0.below hb r0.lt; replace hB := hB.trans (hb.mono hB.size); have hlo0 := r0.lt; clear hb m0 m1 m2 m3 m4; obtain ⟨m0, m1, m2, m3, m4⟩ := st5c r0)
      | (go_at_call 29; (with_reducible refine (Q3.out _ hB).mono ?_); rintro e w3 ⟨rfl, hb⟩; replace r0 := r0.below hb r0.lt; replace hB := hB.trans (hb.mono hB.size); have hlo0 := r0.lt; clear hb m0 m1 m2 m3 m4; obtain ⟨m0, m1, m2, m3, m4⟩ := st5c r0)
      | (go_at_call 29; (with_reducible refine (Q4.out _ hB).mono ?_); rintro e w4 ⟨rfl, hb⟩; replace r0 := r0.below hb r0.lt; replace hB := hB.trans (hb.mono hB.size); have hlo0 := r0.lt; clear hb m0 m1 m2 m3 m4; obtain ⟨m0, m1, m2, m3, m4⟩ := st5c r0)
      | (go_at_call 38; (with_reducible refine (Q5.out _ hB).mono ?_); rintro e w9 ⟨rfl, hb⟩; replace r0 := r0.below hb r0.lt; replace hB := hB.trans (hb.mono hB.size); have hlo0 := r0.lt; clear hb m0 m1 m2 m3 m4; obtain ⟨m0, m1, m2, m3, m4⟩ := st5c r0))
    go_ret
    exact ⟨ret_bool HR.out.symm, hB⟩
  | true =>
  rw [f5] at Q5
  have hFt : formB key m bits = true := by rw [hF, f0, f2, f3, f4, f5, decide_eq_true f1']; rfl
  have HFT := Lib.hid hFt
  have HBT := Lib.hid (fun (i : Nat) (hi : i < bits.length) => show bits.getD i default = 0 ∨ bits.getD i default = 1 from by
    have := List.all_eq_true.1 f5 (bits.getD i default) (by rw [List.getD_eq_getElem?_getD, List.getElem?_eq_getElem hi]; exact List.getElem_mem _)
    unfold bitB at this
    simpa using this)
  clear hF hFt f0 f2 f3 f4 f5
  go_enter Tryz.func13, Tryz.ntmps13
  go_upto_region 1 with fail
  try rw [hW]
  clear hW
  go_upto_region 6 with (first
    | (go_at_call 28; (with_reducible refine (Q1.out _).mono ?_); rintro e w1 ⟨rfl, rfl⟩)
    | (go_at_call 29; (with_reducible refine (Q2.out _ hB).mono ?_); rintro e w2 ⟨rfl, hb⟩; replace r0 := r0.below hb r0.lt; replace hB := hB.trans (hb.mono hB.size); have hlo0 := r0.lt; clear hb m0 m1 m2 m3 m4; obtain ⟨m0, m1, m2, m3, m4⟩ := st5c r0)
    | (go_at_call 29; (with_reducible refine (Q3.out _ hB).mono ?_); rintro e w3 ⟨rfl, hb⟩; replace r0 := r0.below hb r0.lt; replace hB := hB.trans (hb.mono hB.size); have hlo0 := r0.lt; clear hb m0 m1 m2 m3 m4; obtain ⟨m0, m1, m2, m3, m4⟩ := st5c r0)
    | (go_at_call 29; (with_reducible refine (Q4.out _ hB).mono ?_); rintro e w4 ⟨rfl, hb⟩; replace r0 := r0.below hb r0.lt; replace hB := hB.trans (hb.mono hB.size); have hlo0 := r0.lt; clear hb m0 m1 m2 m3 m4; obtain ⟨m0, m1, m2, m3, m4⟩ := st5c r0)
    | (go_at_call 38; (with_reducible refine (Q5.out _ hB).mono ?_); rintro e w9 ⟨rfl, hb⟩; replace r0 := r0.below hb r0.lt; replace hB := hB.trans (hb.mono hB.size); have hlo0 := r0.lt; clear hb m0 m1 m2 m3 m4; obtain ⟨m0, m1, m2, m3, m4⟩ := st5c r0))
  clear Q1 Q2 Q3 Q4 Q5 k0 k1 k2 k3 k4 k5 g1
  clear m0 m1 m2 m3 m4
  go_wp2_with fail
  go_loopg [10] m.i.length (fun g iv wr => ∃ j : Nat, iv = .int .i64 j ∧ j + g = m.i.length ∧ Row wr w.heap.size 32 [.slice ai m.i.length ci, .slice am m.m.length cm, .slice ao m.o.length co, .slice al m.l.length cl, .slice ar m.r.length cr] ∧ Below w.heap.size w wr ∧ (∀ i, i < j → fitsB key m i (bits.getD i default) (l.getD i default) = true) ∧ (placesTo bits l j).Nodup)
  case atStart => exact ⟨0, rfl, by omega, r0, hB, fun i hi => by omega, by simp [placesTo]⟩
  case round =>
    clear r0 hB hlo0
    obtain ⟨j, rfl, hjg, hr, hBr, hfit, hnd⟩ := hrel
    by_cases hlt : j < m.i.length
    · obtain ⟨bb, ob, rfl, hbb, eb⟩ := sl_at HSB.out (j := j) (by rw [HD.out.2.2.2.2.1]; exact hlt)
      have hlj := HLO.out j (by rw [HD.out.2.2.2.2.2]; exact hlt)
      obtain ⟨bl, ol, rfl, hbl, el⟩ := sl_range HSL.out (j := j) (by rw [HD.out.2.2.2.2.2]; exact hlt) (og_len hlj.2)
      have hbj := HBT.out j (by rw [HD.out.2.2.2.2.1]; exact hlt)
      have hfa := Q6.out j _ hlj _ hbj hlt HD.out.1 HD.out.2.1 HD.out.2.2.1 HD.out.2.2.2.1
      have eb0 := eb 0 (by omega)
      have hcf := chk_fits (key := key) (bits := bits) (l := l) hlt
      have hsn : fitsB key m j (bits.getD j default) (l.getD j default) = true → ∀ i, i < j + 1 → fitsB key m i (bits.getD i default) (l.getD i default) = true := fun h i hi => by
        by_cases e : i = j
        · rw [e]; exact h
        · exact hfit i (by omega)
      have hnw := places_new (bits := bits) (l := l) (k := j) hnd
      have hdp := fun i (hi : i < j) h => chk_dup (key := key) (m := m) (bits := bits) (l := l) (places_dup (n := m.i.length) hi hlt h)
      have hsz := sizeOg hlj.2
      obtain ⟨F, hF⟩ : ∃ F, fitsB key m j (bits.getD j default) (l.getD j default) = F := ⟨_, rfl⟩
      rw [hF] at hfa hcf hsn
      obtain ⟨b, hbE⟩ : ∃ b, bits.getD j default = b := ⟨_, rfl⟩
      obtain ⟨o, hoE⟩ : ∃ o, l.getD j default = o := ⟨_, rfl⟩
      rw [hbE] at eb0 hfa hnw hdp hbj
      rw [hoE] at el hfa hnw hdp hsz hlj
      simp only [encI, List.getD_cons_zero, Nat.add_zero, Nat.mul_one] at eb0
      have HFA := Lib.hid hfa
      have HCF := Lib.hid hcf
      have HSN := Lib.hid hsn
      have HNW := Lib.hid hnw
      have HDP := Lib.hid hdp
      have s1 : (0 : Int) ≤ j := by omega
      have s2 : (j : Int) < bits.length := by rw [HD.out.2.2.2.2.1]; omega
      have s3 : (j : Int) < l.length := by rw [HD.out.2.2.2.2.2]; omega
      have s4 : (j : Int) < m.i.length := by omega
      have hzl := hr.lt
      have hbb' : bb < wr.heap.size := by have := hBr.size; omega
      have hbl' : bl < wr.heap.size := by have := hBr.size; omega
      have eb' := (hBr.cell (p := ⟨bb, ob + j, none⟩) hbb).trans eb0
      have el' := range_below el hBr hbl
      have hmi : (Tryz.prog.info? 32).map (·.size) = some 5 := by kernel_rfl
      clear hfit hnd hfa hcf hsn hnw hdp eb eb0 el hF hbE hoE
      go_upto_region 9 with fail
      refine wp_region_det 12 (fun w' => Below wr.heap.size wr w') (by kernel_rfl) (by kernel_rfl) (Below.refl _ _).drew ?_
      refine wpDet_take (v := ?_) rfl (by kernel_rfl) (fun w' hSw => ?_) ?_
      rotate_left 1
      · skip
        go_simp
        with_reducible rfl
      simp only [Act.put, List.getElem_toArray, List.getElem_cons_succ, List.getElem_cons_zero, List.setIfInBounds_toArray, List.set_cons_zero, List.set_cons_succ]
      refine wpDet_take (v := .agg #[.slice ai m.i.length ci, .slice am m.m.length cm, .slice ao m.o.length co, .slice al m.l.length cl, .slice ar m.r.length cr]) rfl (by kernel_rfl) (fun w' hSw => exec_load (ty := 32) (x := .tmp 5) (p := .pointer (some ⟨w.heap.size, 0, none⟩)) (by kernel_rfl) (by kernel_rfl) (run_loadAt_mid w' (w.heap.size) (0) 32 _ _ (range_below (range_row hr) hSw hzl) Tryz.underlying32 rfl hmi)) ?_
      simp only [Act.put, List.getElem_toArray, List.getElem_cons_succ, List.getElem_cons_zero, List.setIfInBounds_toArray, List.set_cons_zero, List.set_cons_succ]
      iterate 8
        refine wpDet_take (v := ?_) rfl (by kernel_rfl) (fun w' hSw => ?_) ?_
        rotate_left 1
        · have c0 := (hSw.cell (p := ⟨bb, ob + j, none⟩) hbb').trans eb'
          go_simp
          with_reducible rfl
        simp only [Act.put, List.getElem_toArray, List.getElem_cons_succ, List.getElem_cons_zero, List.setIfInBounds_toArray, List.set_cons_zero, List.set_cons_succ]
      refine wpDet_take (v := .agg o.cells.toArray) rfl (by kernel_rfl) (fun w' hSw => exec_load (ty := 60) (x := .tmp 97) (p := .pointer (some ⟨bl, ol + j * 36, none⟩)) (by kernel_rfl) (by kernel_rfl) (run_loadAt_mid w' (bl) (ol + j * 36) 60 _ _ (range_below el' hSw hbl') Tryz.underlying60 rfl hsz)) ?_
      simp only [Act.put, List.getElem_toArray, List.getElem_cons_succ, List.getElem_cons_zero, List.setIfInBounds_toArray, List.set_cons_zero, List.set_cons_succ]
      refine wpDet_call (v := .bool F) rfl (by kernel_rfl) (fun w' hSw K hK => ?_) ?_
      · go_simp
        go_at_call 39
        refine (HFA.out _ (hBr.trans (hSw.mono hBr.size))).mono ?_
        rintro e w1 ⟨rfl, hb⟩
        exact hK _ (hSw.trans (hb.mono hSw.size))
      simp only [Act.put, List.getElem_toArray, List.getElem_cons_succ, List.getElem_cons_zero, List.setIfInBounds_toArray, List.set_cons_zero, List.set_cons_succ]
      refine wpDet_done ?_
      intro w4 hS4
      simp only [List.drop_succ_cons, List.drop_zero]
      have hB4 := hBr.trans (hS4.mono hBr.size)
      have hr4 := hr.below hS4 hzl
      have hz4 := hS4.size
      have eb4 := (hS4.cell (p := ⟨bb, ob + j, none⟩) hbb').trans eb'
      have el4 : w4.cell? ⟨bl, ol + j * 36, none⟩ = some (.int .i64 o.a) := by
        have := range_below el' hS4 hbl' 0 (.int .i64 o.a) rfl
        simpa using this
      clear hS4 hr hBr hzl eb' el' HFA hmi hsz
      cases F with
      | false =>
        have HR := Lib.hid (HCF.out rfl)
        go_wp2_with fail
        go_ret
        exact ⟨ret_bool HR.out.symm, hB4⟩
      | true =>
        have HS2 := Lib.hid (HSN.out rfl)
        clear HCF HSN
        obtain ⟨G, rfl⟩ : ∃ G : Nat, G = gk := ⟨_, rfl⟩
        obtain ⟨wo, rfl⟩ : ∃ wo : World, wo = w4 := ⟨_, rfl⟩
        go_wp2_with fail
        go_loopg [11] j (fun g i wr2 => Below wo.heap.size wo wr2 ∧ ∃ k : Nat, i = .int .i64 k ∧ k + g = j ∧ (∀ i, i < k → ¬ (bits.getD i default = b ∧ (l.getD i default).a = o.a)))
        case atStart => exact ⟨Below.refl _ _, 0, rfl, by omega, fun j hj => by omega⟩
        case round =>
          obtain ⟨hBi, k, rfl, hkg, hne⟩ := hrel
          have hBw := hB4.trans (hBi.mono hB4.size)
          by_cases hlt2 : k < j
          · obtain ⟨b5, o5, h5, hb5, e5⟩ := sl_at HSB.out (j := k) (by rw [HD.out.2.2.2.2.1]; omega)
            obtain ⟨b6, o6, h6, hb6, e6⟩ := sl_at HSL.out (j := k) (by rw [HD.out.2.2.2.2.2]; omega)
            injection h5 with h5
            injection h5 with h5 h5'
            injection h6 with h6
            injection h6 with h6 h6'
            subst h5 h5' h6 h6'
            have e50 := e5 0 (by omega)
            simp only [encI, List.getD_cons_zero, Nat.add_zero, Nat.mul_one] at e50
            have c5 := (hBw.cell (p := ⟨bb, ob + k, none⟩) hbb).trans e50
            have c6 : wr.cell? ⟨bl, ol + k * 36, none⟩ = some (.int .i64 (l.getD k default).a) := (hBw.cell (p := ⟨bl, ol + k * 36, none⟩) hbl).trans (show w.cell? ⟨bl, ol + k * 36, none⟩ = some (.int .i64 (l.getD k default).a) from e6 0 (by omega))
            have c7 : wr.cell? ⟨bb, ob + j, none⟩ = some (.int .i64 b) := (hBi.cell (p := ⟨bb, ob + j, none⟩) (by simp only []; omega)).trans eb4
            have c8 : wr.cell? ⟨bl, ol + j * 36, none⟩ = some (.int .i64 o.a) := (hBi.cell (p := ⟨bl, ol + j * 36, none⟩) (by simp only []; omega)).trans el4
            have hnx : ¬ (bits.getD k default = b ∧ (l.getD k default).a = o.a) → ∀ i, i < k + 1 → ¬ (bits.getD i default = b ∧ (l.getD i default).a = o.a) := fun h i hi => by
              by_cases e : i = k
              · rw [e]; exact h
              · exact hne i (by omega)
            have hbad := HDP.out k hlt2
            obtain ⟨b', hb'⟩ : ∃ b', bits.getD k default = b' := ⟨_, rfl⟩
            obtain ⟨a', ha'⟩ : ∃ a', (l.getD k default).a = a' := ⟨_, rfl⟩
            rw [hb'] at c5 hnx hbad
            rw [ha'] at c6 hnx hbad
            have HNX := Lib.hid hnx
            have HBAD := Lib.hid hbad
            have t1 : (k : Int) < (j : Int) := by omega
            have t2 : (0 : Int) ≤ (k : Int) := by omega
            have t3 : (k : Int) < bits.length := by rw [HD.out.2.2.2.2.1]; omega
            have t4 : (k : Int) < l.length := by rw [HD.out.2.2.2.2.2]; omega
            clear e5 e6 e50 hb' ha' hne hnx hbad
            by_cases hq : b' = b
            · have hq1 : (b' == b) = true := by simpa using hq
              by_cases hq2 : a' = o.a
              · have hq3 : (a' == o.a) = true := by simpa using hq2
                have HR := Lib.hid (HBAD.out ⟨hq, hq2⟩)
                clear hq hq2
                go_wp2
                go_quiet (fail)
                go_wp2
                all_goals go_ret
                all_goals exact ⟨ret_bool HR.out.symm, by first | exact hBw | exact below_drewN hBw _ | exact hBw.trans (below_drewN _ _ _)⟩
              · have hq3 : (a' == o.a) = false := by simpa using hq2
                have HR := Lib.hid (HNX.out (fun hh => hq2 hh.2))
                clear hq hq2
                go_wp2
                go_quiet (fail)
                go_wp2
                go_roundg (gk - 1)
                case measure => omega
                case rel => exact ⟨by first | exact hBi | exact below_drewN hBi _ | exact hBi.trans (below_drewN _ _ _), k + 1, by first | rfl | go_num, by omega, HR.out⟩
            · have hq1 : (b' == b) = false := by simpa using hq
              have HR := Lib.hid (HNX.out (fun hh => hq hh.1))
              clear hq
              go_wp2
              go_quiet (fail)
              go_wp2
              go_roundg (gk - 1)
              case measure => omega
              case rel => exact ⟨by first | exact hBi | exact below_drewN hBi _ | exact hBi.trans (below_drewN _ _ _), k + 1, by first | rfl | go_num, by omega, HR.out⟩
          · have hN := Lib.hid (HNW.out (fun i hi => hne i (by omega)))
            have hrw := hr4.below hBi hr4.lt
            clear hne
            go_wp2
            go_roundg (G - 1)
            case measure => omega
            case rel => exact ⟨j + 1, by first | rfl | go_num, by omega, hrw, hBw, HS2.out, hN.out⟩
    · obtain rfl : j = m.i.length := by omega
      have HR := Lib.hid (chk_yes HLT.out HFT.out hfit hnd)
      clear hfit hnd
      go_wp2_with fail
      go_ret
      exact ⟨ret_bool HR.out.symm, hBr⟩
end Go.Proofs.YthboebhghaabnaaGreatDoor

set_option linter.unusedSimpArgs false
set_option linter.unusedVariables false
namespace Go.Proofs.YthboebhghaabnaaGreatDoor
open Go.RowKit Fk Sha
/-! The reference of law 14: SameDigests, Same, where both are equal. -/
set_option maxRecDepth 100000 in
set_option maxHeartbeats 4000000 in
theorem rsamed_any (l : List (List B)) (v v2 : Value) (w : World) (h : SlG 32 encD w w.heap.size v l) (h2 : SlG 32 encD w w.heap.size v2 l) (h32 : ∀ i, i < l.length → (l.getD i default).length = 32) :
    Calls Tryz.prog 34 #[v, v2] w fun e w' => e = .returned (.bool true) ∧ Below w.heap.size w w' := by
  have HS := Lib.hid h
  have HS2 := Lib.hid h2
  have H32 := Lib.hid h32
  obtain ⟨hlen, A, c, rfl, _⟩ := h
  obtain ⟨_, A2, c2, rfl, _⟩ := h2
  clear h32
  have hne : ((l.length : Int) != l.length) = false := by simp
  go_enter Tryz.func34, Tryz.ntmps34
  go_wp2_with fail
  go_loopg [5] l.length (fun g i wr => Below w.heap.size w wr ∧ ∃ k : Nat, i = .int .i64 k ∧ k + g = l.length)
  case atStart => exact ⟨Below.refl _ _, 0, rfl, by omega⟩
  case round =>
    obtain ⟨hBr, k, rfl, hk⟩ := hrel
    by_cases hlt : k < l.length
    · have hd := H32.out k hlt
      have hel : (encD (l.getD k default)).length = 32 := by unfold encD; rw [List.length_map]; exact hd
      obtain ⟨b, o, rfl, hb, e⟩ := sl_range HS.out (j := k) hlt hel
      obtain ⟨b2, o2, rfl, hb2, e2⟩ := sl_range HS2.out (j := k) hlt hel
      have s1 : (0 : Int) ≤ k := by omega
      have s2 : (k : Int) < l.length := by omega
      obtain ⟨D, hD⟩ : ∃ D, l.getD k default = D := ⟨_, rfl⟩
      rw [hD] at hd e e2
      have bq := fun w => runD 9998 D D hd hd w
      rw [decide_eq_true rfl] at bq
      have hi : (Tryz.prog.info? 58).map (·.size) = some (encD D).length := sizeDg hd
      have e' := range_below e hBr hb
      have e2' := range_below e2 hBr hb2
      have hb' : b < wr.heap.size := by have := hBr.size; omega
      have hb2' : b2 < wr.heap.size := by have := hBr.size; omega
      clear hel e e2 hD
      go_upto_region 6 with fail
      refine wp_region_det 8 (fun w' => Below wr.heap.size wr w') (by kernel_rfl) (by kernel_rfl) (Below.refl _ _).drew ?_
      iterate 3
        refine wpDet_take (v := ?_) rfl (by kernel_rfl) (fun w' hSw => ?_) ?_
        rotate_left 1
        · skip
          go_simp
          with_reducible rfl
        simp only [Act.put, List.getElem_toArray, List.getElem_cons_succ, List.getElem_cons_zero, List.setIfInBounds_toArray, List.set_cons_zero, List.set_cons_succ]
      refine wpDet_take (v := .agg (D.map bv).toArray) rfl (by kernel_rfl) (fun w' hSw => exec_load (ty := 58) (x := .tmp 19) (p := .pointer (some ⟨b, o + k * 32, none⟩)) (by kernel_rfl) (by kernel_rfl) (run_loadAt_mid w' b (o + k * 32) 58 _ _ (range_below e' hSw hb') Tryz.underlying58 rfl hi)) ?_
      simp only [Act.put, List.getElem_toArray, List.getElem_cons_succ, List.getElem_cons_zero, List.setIfInBounds_toArray, List.set_cons_zero, List.set_cons_succ]
      iterate 3
        refine wpDet_take (v := ?_) rfl (by kernel_rfl) (fun w' hSw => ?_) ?_
        rotate_left 1
        · skip
          go_simp
          with_reducible rfl
        simp only [Act.put, List.getElem_toArray, List.getElem_cons_succ, List.getElem_cons_zero, List.setIfInBounds_toArray, List.set_cons_zero, List.set_cons_succ]
      refine wpDet_take (v := .agg (D.map bv).toArray) rfl (by kernel_rfl) (fun w' hSw => exec_load (ty := 58) (x := .tmp 23) (p := .pointer (some ⟨b2, o2 + k * 32, none⟩)) (by kernel_rfl) (by kernel_rfl) (run_loadAt_mid w' b2 (o2 + k * 32) 58 _ _ (range_below e2' hSw hb2') Tryz.underlying58 rfl hi)) ?_
      simp only [Act.put, List.getElem_toArray, List.getElem_cons_succ, List.getElem_cons_zero, List.setIfInBounds_toArray, List.set_cons_zero, List.set_cons_succ]
      refine wpDet_done ?_
      intro w4 hS4
      simp only [List.drop_succ_cons, List.drop_zero]
      have hB4 := hBr.trans (hS4.mono hBr.size)
      go_wp2_with fail
      go_roundg (gk - 1)
      case measure => omega
      case rel => exact ⟨hB4, k + 1, by first | rfl | go_num, by omega⟩
    · obtain rfl : k = l.length := by omega
      go_wp2_with fail
      go_ret
      exact ⟨rfl, hBr⟩
set_option maxRecDepth 100000 in
set_option maxHeartbeats 4000000 in
theorem rsame14_any (m : Mx) (x y : MxA) (w : World) (h : MxS w w.heap.size x m) (h2 : MxS w w.heap.size y m) (hok : MxOK m) :
    Calls Tryz.prog 9 #[.agg (x.cells m).toArray, .agg (y.cells m).toArray] w fun e w' => e = .returned (.bool true) ∧ Below w.heap.size w w' := by
  obtain ⟨ai, ci, am, cm, ao, co, al, cl, ar, cr⟩ := x
  obtain ⟨bi, di, bm, dm, bo, d_o, bl, dl, br, dr⟩ := y
  rw [show (MxA.cells ⟨ai, ci, am, cm, ao, co, al, cl, ar, cr⟩ m) = [.slice ai m.i.length ci, .slice am m.m.length cm, .slice ao m.o.length co, .slice al m.l.length cl, .slice ar m.r.length cr] from rfl, show (MxA.cells ⟨bi, di, bm, dm, bo, d_o, bl, dl, br, dr⟩ m) = [.slice bi m.i.length di, .slice bm m.m.length dm, .slice bo m.o.length d_o, .slice bl m.l.length dl, .slice br m.r.length dr] from rfl]
  have Q1 := Lib.hid (fun (W : World) (hb : Below w.heap.size w W) => same10_any m.i _ _ W w.heap.size hb.size (h.i.below hb) (h2.i.below hb))
  have Q2 := Lib.hid (fun (W : World) (hb : Below w.heap.size w W) => same10_any m.m _ _ W w.heap.size hb.size (h.m.below hb) (h2.m.below hb))
  have Q3 := Lib.hid (fun (W : World) (hb : Below w.heap.size w W) => same10_any m.o _ _ W w.heap.size hb.size (h.o.below hb) (h2.o.below hb))
  have Q4 := Lib.hid (fun (W : World) (hb : Below w.heap.size w W) => rsamed_any m.l _ _ W ((h.l.below hb).mono hb.size) ((h2.l.below hb).mono hb.size) hok.l)
  have Q5 := Lib.hid (fun (W : World) (hb : Below w.heap.size w W) => rsamed_any m.r _ _ W ((h.r.below hb).mono hb.size) ((h2.r.below hb).mono hb.size) hok.r)
  have r0 := (Row.new w 32 [.slice ai m.i.length ci, .slice am m.m.length cm, .slice ao m.o.length co, .slice al m.l.length cl, .slice ar m.r.length cr]).alloc (.cells #[.slice bi m.i.length di, .slice bm m.m.length dm, .slice bo m.o.length d_o, .slice bl m.l.length dl, .slice br m.r.length dr] 32)
  have r1 := Row.new (w.alloc (.cells #[.slice ai m.i.length ci, .slice am m.m.length cm, .slice ao m.o.length co, .slice al m.l.length cl, .slice ar m.r.length cr] 32)) 32 [.slice bi m.i.length di, .slice bm m.m.length dm, .slice bo m.o.length d_o, .slice bl m.l.length dl, .slice br m.r.length dr]
  rw [World.size_alloc] at r1
  have hB := (below_alloc' w (.cells #[.slice ai m.i.length ci, .slice am m.m.length cm, .slice ao m.o.length co, .slice al m.l.length cl, .slice ar m.r.length cr] 32)).alloc (by simp) (.cells #[.slice bi m.i.length di, .slice bm m.m.length dm, .slice bo m.o.length d_o, .slice bl m.l.length dl, .slice br m.r.length dr] 32)
  clear h h2 hok
  simp only at Q1 Q2 Q3 Q4 Q5
  go_enter Tryz.func9, Tryz.ntmps9
  obtain ⟨W, hW⟩ : ∃ W, (w.alloc (.cells #[.slice ai m.i.length ci, .slice am m.m.length cm, .slice ao m.o.length co, .slice al m.l.length cl, .slice ar m.r.length cr] 32)).alloc (.cells #[.slice bi m.i.length di, .slice bm m.m.length dm, .slice bo m.o.length d_o, .slice bl m.l.length dl, .slice br m.r.length dr] 32) = W := ⟨_, rfl⟩
  replace r1 : Row W (w.heap.size + 1) 32 [.slice bi m.i.length di, .slice bm m.m.length dm, .slice bo m.o.length d_o, .slice bl m.l.length dl, .slice br m.r.length dr] := hW ▸ r1
  rw [hW] at r0 hB
  go_upto_region 1 with fail
  try rw [show _ = W from hW]
  clear hW
  obtain ⟨m0, m1, m2, m3, m4⟩ := st5c r0
  obtain ⟨n0, n1, n2, n3, n4⟩ := st5c r1
  go_wp2_with (first
    | (go_at_call 19; (with_reducible refine (Q1.out _ hB).mono ?_); rintro e u1 ⟨rfl, hb⟩; replace r0 := r0.below hb r0.lt; replace r1 := r1.below hb r1.lt; replace hB := hB.trans (hb.mono hB.size); clear hb m0 m1 m2 m3 m4 n0 n1 n2 n3 n4; obtain ⟨m0, m1, m2, m3, m4⟩ := st5c r0; obtain ⟨n0, n1, n2, n3, n4⟩ := st5c r1)
    | (go_at_call 19; (with_reducible refine (Q2.out _ hB).mono ?_); rintro e u2 ⟨rfl, hb⟩; replace r0 := r0.below hb r0.lt; replace r1 := r1.below hb r1.lt; replace hB := hB.trans (hb.mono hB.size); clear hb m0 m1 m2 m3 m4 n0 n1 n2 n3 n4; obtain ⟨m0, m1, m2, m3, m4⟩ := st5c r0; obtain ⟨n0, n1, n2, n3, n4⟩ := st5c r1)
    | (go_at_call 19; (with_reducible refine (Q3.out _ hB).mono ?_); rintro e u3 ⟨rfl, hb⟩; replace r0 := r0.below hb r0.lt; replace r1 := r1.below hb r1.lt; replace hB := hB.trans (hb.mono hB.size); clear hb m0 m1 m2 m3 m4 n0 n1 n2 n3 n4; obtain ⟨m0, m1, m2, m3, m4⟩ := st5c r0; obtain ⟨n0, n1, n2, n3, n4⟩ := st5c r1)
    | (go_at_call 34; (with_reducible refine (Q4.out _ hB).mono ?_); rintro e u4 ⟨rfl, hb⟩; replace r0 := r0.below hb r0.lt; replace r1 := r1.below hb r1.lt; replace hB := hB.trans (hb.mono hB.size); clear hb m0 m1 m2 m3 m4 n0 n1 n2 n3 n4; obtain ⟨m0, m1, m2, m3, m4⟩ := st5c r0; obtain ⟨n0, n1, n2, n3, n4⟩ := st5c r1)
    | (go_at_call 34; (with_reducible refine (Q5.out _ hB).mono ?_); rintro e u5 ⟨rfl, hb⟩; replace r0 := r0.below hb r0.lt; replace r1 := r1.below hb r1.lt; replace hB := hB.trans (hb.mono hB.size); clear hb m0 m1 m2 m3 m4 n0 n1 n2 n3 n4; obtain ⟨m0, m1, m2, m3, m4⟩ := st5c r0; obtain ⟨n0, n1, n2, n3, n4⟩ := st5c r1))
  go_ret
  exact ⟨rfl, hB⟩
end Go.Proofs.YthboebhghaabnaaGreatDoor

set_option linter.unusedSimpArgs false
set_option linter.unusedVariables false
namespace Go.Proofs.YthboebhghaabnaaGreatDoor
open Go.RowKit Fk Sha
/-! Small functions of law 14 and of its reference: few; long; opposite. -/
def fewMx (m : Mx) : Bool := decide (m.i.length ≤ 6) && (decide (m.m.length ≤ 7) && (decide (m.o.length ≤ 7) && (decide (m.l.length ≤ 7) && decide (m.r.length ≤ 7))))
set_option maxRecDepth 100000 in
set_option maxHeartbeats 2000000 in
theorem fewmix_any (m : Mx) (x : MxA) (w : World) :
    Calls Tryz.prog 10 #[.agg (x.cells m).toArray] w fun e w' => e = .returned (.bool (fewMx m)) ∧ Below w.heap.size w w' := by
  have hD : fewMx m = (decide (m.i.length ≤ 6) && (decide (m.m.length ≤ 7) && (decide (m.o.length ≤ 7) && (decide (m.l.length ≤ 7) && decide (m.r.length ≤ 7))))) := rfl
  have hB := below_alloc' w (.cells (x.cells m).toArray 32)
  have r0 := Row.new w 32 (x.cells m)
  obtain ⟨ai, ci, am, cm, ao, co, al, cl, ar, cr⟩ := x
  unfold MxA.cells at hB r0 ⊢
  simp only at hB r0 ⊢
  obtain ⟨W, hW⟩ : ∃ W, w.alloc (.cells #[.slice ai m.i.length ci, .slice am m.m.length cm, .slice ao m.o.length co, .slice al m.l.length cl, .slice ar m.r.length cr] 32) = W := ⟨_, rfl⟩
  replace r0 : Row W w.heap.size 32 [.slice ai m.i.length ci, .slice am m.m.length cm, .slice ao m.o.length co, .slice al m.l.length cl, .slice ar m.r.length cr] := hW ▸ r0
  replace hB : Below w.heap.size w W := hW ▸ hB
  have c0 : W.cell? ⟨w.heap.size, 0, none⟩ = some _ := r0.cell 0
  have c1 : W.cell? ⟨w.heap.size, 1, none⟩ = some _ := r0.cell 1
  have c2 : W.cell? ⟨w.heap.size, 2, none⟩ = some _ := r0.cell 2
  have c3 : W.cell? ⟨w.heap.size, 3, none⟩ = some _ := r0.cell 3
  have c4 : W.cell? ⟨w.heap.size, 4, none⟩ = some _ := r0.cell 4
  clear r0
  by_cases f0 : (m.i.length : Int) ≤ 6
  rotate_left 1
  · have q := Lib.hid (show fewMx m = false by rw [hD]; simp; omega)
    clear hD
    go_enter Tryz.func10, Tryz.ntmps10
    go_upto_region 1 with fail
    try rw [hW]
    try clear hW
    go_wp2_with fail
    go_ret
    exact ⟨ret_bool q.out.symm, hB⟩
  by_cases f1 : (m.m.length : Int) ≤ 7
  rotate_left 1
  · have q := Lib.hid (show fewMx m = false by rw [hD]; simp; omega)
    clear hD
    go_enter Tryz.func10, Tryz.ntmps10
    go_upto_region 1 with fail
    try rw [hW]
    try clear hW
    go_wp2_with fail
    go_ret
    exact ⟨ret_bool q.out.symm, hB⟩
  by_cases f2 : (m.o.length : Int) ≤ 7
  rotate_left 1
  · have q := Lib.hid (show fewMx m = false by rw [hD]; simp; omega)
    clear hD
    go_enter Tryz.func10, Tryz.ntmps10
    go_upto_region 1 with fail
    try rw [hW]
    try clear hW
    go_wp2_with fail
    go_ret
    exact ⟨ret_bool q.out.symm, hB⟩
  by_cases f3 : (m.l.length : Int) ≤ 7
  rotate_left 1
  · have q := Lib.hid (show fewMx m = false by rw [hD]; simp; omega)
    clear hD
    go_enter Tryz.func10, Tryz.ntmps10
    go_upto_region 1 with fail
    try rw [hW]
    try clear hW
    go_wp2_with fail
    go_ret
    exact ⟨ret_bool q.out.symm, hB⟩
  by_cases f4 : (m.r.length : Int) ≤ 7
  rotate_left 1
  · have q := Lib.hid (show fewMx m = false by rw [hD]; simp; omega)
    clear hD
    go_enter Tryz.func10, Tryz.ntmps10
    go_upto_region 1 with fail
    try rw [hW]
    try clear hW
    go_wp2_with fail
    go_ret
    exact ⟨ret_bool q.out.symm, hB⟩
  have q := Lib.hid (show fewMx m = true by rw [hD]; simp; omega)
  clear hD
  go_enter Tryz.func10, Tryz.ntmps10
  go_upto_region 1 with fail
  try rw [hW]
  try clear hW
  go_wp2_with fail
  go_ret
  exact ⟨ret_bool q.out.symm, hB⟩
def fewTn (t : Tn) : Bool := decide (t.l.length ≤ 6) && (decide (t.r.length ≤ 7) && (decide (t.rl.length ≤ 7) && (decide (t.rr.length ≤ 7) && decide (t.s.length ≤ 7))))
set_option maxRecDepth 100000 in
set_option maxHeartbeats 2000000 in
theorem fewturn_any (t : Tn) (x : TnA) (w : World) :
    Calls Tryz.prog 6 #[.agg (x.cells t).toArray] w fun e w' => e = .returned (.bool (fewTn t)) ∧ Below w.heap.size w w' := by
  have hD : fewTn t = (decide (t.l.length ≤ 6) && (decide (t.r.length ≤ 7) && (decide (t.rl.length ≤ 7) && (decide (t.rr.length ≤ 7) && decide (t.s.length ≤ 7))))) := rfl
  have hB := below_alloc' w (.cells (x.cells t).toArray 27)
  have r0 := Row.new w 27 (x.cells t)
  obtain ⟨al, cl, ar, cr, arl, crl, arr, crr, at_, ct⟩ := x
  unfold TnA.cells at hB r0 ⊢
  simp only at hB r0 ⊢
  obtain ⟨W, hW⟩ : ∃ W, w.alloc (.cells #[.slice al t.l.length cl, .slice ar t.r.length cr, .slice arl t.rl.length crl, .slice arr t.rr.length crr, .slice at_ t.s.length ct] 27) = W := ⟨_, rfl⟩
  replace r0 : Row W w.heap.size 27 [.slice al t.l.length cl, .slice ar t.r.length cr, .slice arl t.rl.length crl, .slice arr t.rr.length crr, .slice at_ t.s.length ct] := hW ▸ r0
  replace hB : Below w.heap.size w W := hW ▸ hB
  have c0 : W.cell? ⟨w.heap.size, 0, none⟩ = some _ := r0.cell 0
  have c1 : W.cell? ⟨w.heap.size, 1, none⟩ = some _ := r0.cell 1
  have c2 : W.cell? ⟨w.heap.size, 2, none⟩ = some _ := r0.cell 2
  have c3 : W.cell? ⟨w.heap.size, 3, none⟩ = some _ := r0.cell 3
  have c4 : W.cell? ⟨w.heap.size, 4, none⟩ = some _ := r0.cell 4
  clear r0
  by_cases f0 : (t.l.length : Int) ≤ 6
  rotate_left 1
  · have q := Lib.hid (show fewTn t = false by rw [hD]; simp; omega)
    clear hD
    go_enter Tryz.func6, Tryz.ntmps6
    go_upto_region 1 with fail
    try rw [hW]
    try clear hW
    go_wp2_with fail
    go_ret
    exact ⟨ret_bool q.out.symm, hB⟩
  by_cases f1 : (t.r.length : Int) ≤ 7
  rotate_left 1
  · have q := Lib.hid (show fewTn t = false by rw [hD]; simp; omega)
    clear hD
    go_enter Tryz.func6, Tryz.ntmps6
    go_upto_region 1 with fail
    try rw [hW]
    try clear hW
    go_wp2_with fail
    go_ret
    exact ⟨ret_bool q.out.symm, hB⟩
  by_cases f2 : (t.rl.length : Int) ≤ 7
  rotate_left 1
  · have q := Lib.hid (show fewTn t = false by rw [hD]; simp; omega)
    clear hD
    go_enter Tryz.func6, Tryz.ntmps6
    go_upto_region 1 with fail
    try rw [hW]
    try clear hW
    go_wp2_with fail
    go_ret
    exact ⟨ret_bool q.out.symm, hB⟩
  by_cases f3 : (t.rr.length : Int) ≤ 7
  rotate_left 1
  · have q := Lib.hid (show fewTn t = false by rw [hD]; simp; omega)
    clear hD
    go_enter Tryz.func6, Tryz.ntmps6
    go_upto_region 1 with fail
    try rw [hW]
    try clear hW
    go_wp2_with fail
    go_ret
    exact ⟨ret_bool q.out.symm, hB⟩
  by_cases f4 : (t.s.length : Int) ≤ 7
  rotate_left 1
  · have q := Lib.hid (show fewTn t = false by rw [hD]; simp; omega)
    clear hD
    go_enter Tryz.func6, Tryz.ntmps6
    go_upto_region 1 with fail
    try rw [hW]
    try clear hW
    go_wp2_with fail
    go_ret
    exact ⟨ret_bool q.out.symm, hB⟩
  have q := Lib.hid (show fewTn t = true by rw [hD]; simp; omega)
  clear hD
  go_enter Tryz.func6, Tryz.ntmps6
  go_upto_region 1 with fail
  try rw [hW]
  try clear hW
  go_wp2_with fail
  go_ret
  exact ⟨ret_bool q.out.symm, hB⟩
def fewOg (a b : Nat) : Bool := decide (a ≤ 7) && decide (b ≤ 7)
set_option maxRecDepth 100000 in
set_option maxHeartbeats 2000000 in
theorem fewopened_any (a b : Nat) (A A1 : Option Addr) (c c1 : Nat) (w : World) :
    Calls Tryz.prog 11 #[.slice A a c, .slice A1 b c1] w fun e w' => e = .returned (.bool (fewOg a b)) ∧ Below w.heap.size w w' := by
  have hD : fewOg a b = (decide (a ≤ 7) && decide (b ≤ 7)) := rfl
  have hB := Below.refl w.heap.size w
  by_cases f0 : (a : Int) ≤ 7
  rotate_left 1
  · have q := Lib.hid (show fewOg a b = false by rw [hD]; simp; omega)
    clear hD
    go_enter Tryz.func11, Tryz.ntmps11
    go_upto_region 1 with fail
    try rw [hW]
    try clear hW
    go_wp2_with fail
    go_ret
    exact ⟨ret_bool q.out.symm, hB⟩
  by_cases f1 : (b : Int) ≤ 7
  rotate_left 1
  · have q := Lib.hid (show fewOg a b = false by rw [hD]; simp; omega)
    clear hD
    go_enter Tryz.func11, Tryz.ntmps11
    go_upto_region 1 with fail
    try rw [hW]
    try clear hW
    go_wp2_with fail
    go_ret
    exact ⟨ret_bool q.out.symm, hB⟩
  have q := Lib.hid (show fewOg a b = true by rw [hD]; simp; omega)
  clear hD
  go_enter Tryz.func11, Tryz.ntmps11
  go_upto_region 1 with fail
  try rw [hW]
  try clear hW
  go_wp2_with fail
  go_ret
  exact ⟨ret_bool q.out.symm, hB⟩
def longMx (m : Mx) (n n1 n2 : Nat) : Bool := decide (m.i.length = n) && (decide (m.o.length = n) && (decide (n1 = n) && decide (n2 = n)))
theorem opp_snoc (bits : List Int) {k : Nat} (h : k < bits.length) : opp (bits.take (k + 1)) = opp (bits.take k) ++ [1 - bits.getD k default] := by
  unfold opp
  rw [List.take_succ_eq_append_getElem h, List.map_append, getD_eq_getElem' h]
  rfl
theorem opp_take_length (bits : List Int) {k : Nat} (h : k ≤ bits.length) : (opp (bits.take k)).length = k := by simp [opp]; omega
end Go.Proofs.YthboebhghaabnaaGreatDoor

set_option linter.unusedSimpArgs false
set_option linter.unusedVariables false
namespace Go.Proofs.YthboebhghaabnaaGreatDoor
open Go.RowKit Go.WideShapes Go.ChangeShapes Go.ChangeMaps Go.Deep Fk Sha
/-! Lists of letters as arguments. -/
section
variable {H : Type} {enc : TypeId × Value → H} {w : World} {base : Nat} {r : Reach}
set_option maxRecDepth 100000 in
theorem open_sl_s14 {v : Value} {d : DataW H} {p : List MemPlace} (hv : Value.okWide Tryz.prog w r base 22 v) (h : DataW.Trod enc Tryz.prog w 0 (fun _ => true) true 22 v d p) :
    ∃ l : List Se, SlS w w.heap.size v l ∧ True := by
  obtain ⟨a, len, cap, rfl⟩ := okWide_slice Tryz.underlying22 hv
  obtain ⟨fuel, hf⟩ := h
  rw [cells_slice] at hf
  obtain ⟨l, A, c, e, s, _, _, q⟩ := open_slG (m := 6) (en := encS) (Q := fun _ => True) (by omega) Tryz.underlying22 (by kernel_rfl) (fun n cs x h1 h2 => el_se h1 h2) hf
  obtain ⟨rfl, rfl, rfl⟩ : a = A ∧ len = l.length ∧ cap = c := by simpa using e
  exact ⟨l, s, trivial⟩
end
end Go.Proofs.YthboebhghaabnaaGreatDoor
