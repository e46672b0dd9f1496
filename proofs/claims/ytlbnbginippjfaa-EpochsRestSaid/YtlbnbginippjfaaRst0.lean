import Derived.Test.YtlbnbginippjfaaRest
import Derived.Test.YtlbnbginippjfaaEl11
import Derived.Test.YtlbnbginippjfaaElF
import Derived.Test.YtlbnbginippjfaaElQ
import Derived.Test.YtlbnbginippjfaaStep
import Derived.Laws.AppendOwn
import Derived.Laws.NewBlocks
import Derived.Laws.OwnMore
import Derived.IntWalk
import Derived.Deep.LoopGhost
namespace Go.Proofs.Ytlbnbginippjfaa
open Go.RowKit Fk
/-! What the walk of EpochsRest needs of the letters' templates (gathered: a claim holds 60 files). -/
theorem one_pow_mod (a n : Int) : 1 * powC a n % 2147483579 = powC a n := by
  have := powC_bd a n
  rw [Int.one_mul]; exact Int.emod_eq_of_lt this.1 this.2
theorem Row.oth {W : World} {b : Nat} {t : TypeId} {vs : List Value} (h : Row W b t vs) {c k : Nat} (hne : b ≠ c) (v : Value) : Row (W.setCell ⟨c, k, none⟩ v) b t vs :=
  Row.other h (by first | exact hne | exact hne.symm) _
theorem times_pow0 {g a : Int} (hg : vld g = true) (ha : vld a = true) : a * powC g 0 % 2147483579 = a := by
  rw [pow_0 hg, mul_in ha vld_1, mul_one' ha]
theorem sealC_ok {key : Int} (hk : vld key = true) {t : Tr} (hw : wOK t = true) (a : Tr) : sealC key t a = (seal0 t).map (moreC key a) ∧ sealE key t = 0 ∧ okS (sealC key t a) = true := by
  unfold sealC sealE; rw [hk, hw]; exact ⟨rfl, rfl, okS_more hk (seal0_ok hw)⟩
theorem infoI4 : (Try.prog.info? 3).map (fun i => (i.zero, i.size, i.bytes)) = some (some (.int .i64 0), 1, 8) := by kernel_rfl
theorem own_slI {α : Type} [Inhabited α] {m : Nat} {enc : α → List Value} {w : World} {base n : Nat} {e : TypeId} {v : Value} {l : List α} (h : w.ownsRow base e m v n (l.flatMap enc)) (hm : ∀ a, (enc a).length = m) (hn : n = l.length) (hl : l.length ≤ 9223372036854775807) :
    SlG m enc w w.heap.size v l := by
  subst hn
  rcases h.2 with ⟨rfl, h0⟩ | ⟨g, cap, cur, rfl, hb, hg, hnc, hc, hcs, ht⟩
  · obtain rfl : l = [] := List.eq_nil_of_length_eq_zero h0
    exact SlG.nil_ _ _
  · have hr : Row w g e cur.toList := by show w.heap[g]? = _; rw [hg]
    refine ⟨hl, _, _, rfl, fun hp => ⟨g, 0, rfl, hr.lt, ?_⟩⟩
    have hrow : Row (w.alloc (.cells (l.flatMap enc).toArray e)) w.heap.size e (l.flatMap enc) := Row.new w e _
    obtain ⟨_, A, c, hv, hE⟩ := Row.sl (c := 0) hrow hm hl (B0 := w.heap.size + 1) (by omega)
    obtain ⟨b, off, hA, _, hE⟩ := hE hp
    injection hv with hv1 hv2 hv3
    rw [hA] at hv1
    injection hv1 with hv1
    injection hv1 with hb' ho'
    intro i hi j hj
    have h2 := hE i hi j hj
    rw [← hb', ← ho', hrow.cell] at h2
    rw [hr.cell, ← h2, ← ht, List.getElem?_take_of_lt]
    have : (i + 1) * m ≤ l.length * m := Nat.mul_le_mul_right m (by omega)
    rw [Nat.succ_mul] at this
    omega
theorem cell_one_newI (w : World) (x : Value) (t : TypeId) : ∀ j u, [x][j]? = some u → (w.alloc (.cells #[x] t)).cell? ((⟨w.heap.size, 0, none⟩ : Addr).add j) = some u := by
  intro j u hj
  match j, hj with
  | 0, hj => simp at hj; subst hj; simp [Addr.add]
  | (j + 1), hj => simp at hj
def pubs (l : List Int) : List Int := l.map (powC 4)
theorem pubs_snoc {l : List Int} {k : Nat} (h : k < l.length) : (pubs (l.take (k + 1))).flatMap encI = (pubs (l.take k)).flatMap encI ++ [.int .i64 (powC 4 (l.getD k default))] := by
  rw [take_snocI h]; unfold pubs; rw [List.map_append, List.flatMap_append]; rfl
theorem stripC_more {S n : Int} {e : Int} (he : vld e = true) (r : Tr) (i : Nat) : stripC n i (moreC (powC 4 S) r i ⟨1, e⟩) = moreC (powC 4 (S - n)) r i ⟨1, e⟩ := by
  have h4 := vld_4
  have hr := vld_powC h4 (r.get i)
  unfold stripC moreC
  simp only
  have e1 : 1 * powC 4 (r.get i) % 2147483579 = powC 4 (r.get i) := one_pow_mod 4 (r.get i)
  rw [e1, pow_mul' h4, pow_mul' h4, pow_mul' h4, mul_in he (vld_powC h4 _), mul_in (vld_mul he (vld_powC h4 _)) (vld_powC h4 _), mul_assoc' he (vld_powC h4 _) (vld_powC h4 _), pow_add' h4, mul_in he (vld_powC h4 _)]
  have e2 : S * r.get i + r.get i * -n = (S - n) * r.get i := by rw [Int.sub_mul, Int.mul_neg, Int.mul_comm n]; omega
  rw [e2]
theorem more_nil {e : Int} (he : vld e = true) (q : Tr) (i : Nat) : (moreC (powC 4 0) q i ⟨1, e⟩).b = e := by
  unfold moreC
  show e * powC (powC 4 0) (q.get i) % 2147483579 = e
  rw [pow_mul' vld_4, Int.zero_mul]
  exact times_pow0 vld_4 he
theorem zrow {W w9 : World} {t : TypeId} {a0 a1 a2 a3 a4 a5 : Value} (hb : Below (W.alloc (.cells #[a0, a1, a2, a3, a4, a5] t)).drew.heap.size (W.alloc (.cells #[a0, a1, a2, a3, a4, a5] t)).drew w9) : Row w9 W.heap.size t [a0, a1, a2, a3, a4, a5] :=
  Row.keep (Row.keep (Row.new W t [a0, a1, a2, a3, a4, a5]) rfl) (hb.block _ (by show _ < (W.alloc _).heap.size; simp))
theorem zb {W w9 : World} (hb : Below W.drew.heap.size W.drew w9) : Below W.heap.size W w9 := (Below.refl _ W).drew.trans hb
theorem za {W w9 : World} {o : Obj} (hb : Below (W.alloc o).drew.heap.size (W.alloc o).drew w9) : Below W.heap.size W w9 :=
  ((Below.refl _ W).alloc (Nat.le_refl _) o).drew.trans (hb.mono (by show _ ≤ (W.alloc _).heap.size; simp))
theorem fin_b {w W2 w9 : World} {t : TypeId} {a0 a1 a2 a3 a4 a5 : Value} (hB : Below w.heap.size w W2) (hb : Below W2.heap.size W2 w9) :
    Below w.heap.size w (w9.alloc (.cells #[a0, a1, a2, a3, a4, a5] t)) ∧ (∀ g t' vs, Row W2 g t' vs → Row (w9.alloc (.cells #[a0, a1, a2, a3, a4, a5] t)) g t' vs) ∧ Row (w9.alloc (.cells #[a0, a1, a2, a3, a4, a5] t)) w9.heap.size t [a0, a1, a2, a3, a4, a5] := by
  obtain ⟨h1, h2, h3⟩ := step0 hB hb
  exact ⟨h1.alloc h1.size _, fun g t' vs h => (h3 _ _ _ h).alloc _, Row.new w9 t [a0, a1, a2, a3, a4, a5]⟩
theorem fin_a {w W2 w9 : World} {t : TypeId} {z0 z1 z2 z3 z4 z5 a0 a1 a2 a3 a4 a5 : Value} (hB : Below w.heap.size w W2) (hb : Below W2.heap.size W2 w9) (z : Row w9 W2.heap.size t [z0, z1, z2, z3, z4, z5]) :
    Below w.heap.size w ((((((w9.setCell ⟨W2.heap.size, 0, none⟩ a0).setCell ⟨W2.heap.size, 1, none⟩ a1).setCell ⟨W2.heap.size, 2, none⟩ a2).setCell ⟨W2.heap.size, 3, none⟩ a3).setCell ⟨W2.heap.size, 4, none⟩ a4).setCell ⟨W2.heap.size, 5, none⟩ a5) ∧
    (∀ g t' vs, Row W2 g t' vs → Row ((((((w9.setCell ⟨W2.heap.size, 0, none⟩ a0).setCell ⟨W2.heap.size, 1, none⟩ a1).setCell ⟨W2.heap.size, 2, none⟩ a2).setCell ⟨W2.heap.size, 3, none⟩ a3).setCell ⟨W2.heap.size, 4, none⟩ a4).setCell ⟨W2.heap.size, 5, none⟩ a5) g t' vs) ∧
    Row ((((((w9.setCell ⟨W2.heap.size, 0, none⟩ a0).setCell ⟨W2.heap.size, 1, none⟩ a1).setCell ⟨W2.heap.size, 2, none⟩ a2).setCell ⟨W2.heap.size, 3, none⟩ a3).setCell ⟨W2.heap.size, 4, none⟩ a4).setCell ⟨W2.heap.size, 5, none⟩ a5) W2.heap.size t [a0, a1, a2, a3, a4, a5] := by
  obtain ⟨h1, h2, h3⟩ := step0 hB hb
  have hz := hB.size
  refine ⟨(((((h1.setCell hz _).setCell hz _).setCell hz _).setCell hz _).setCell hz _).setCell hz _, fun g t' vs h => ?_, ?_⟩
  · have hl : g ≠ W2.heap.size := Nat.ne_of_lt (Row.lt h)
    exact Row.oth (Row.oth (Row.oth (Row.oth (Row.oth (Row.oth (h3 _ _ _ h) hl _) hl _) hl _) hl _) hl _) hl _
  · exact Row.store (Row.store (Row.store (Row.store (Row.store (Row.store z 0 _) 1 _) 2 _) 3 _) 4 _) 5 _
end Go.Proofs.Ytlbnbginippjfaa
