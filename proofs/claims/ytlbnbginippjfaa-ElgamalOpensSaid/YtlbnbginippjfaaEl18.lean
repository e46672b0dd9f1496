import Derived.Test.YtlbnbginippjfaaEl17
import Derived.Test.YtlbnbginippjfaaEl5
import Derived.Test.YtlbnbginippjfaaEl1
import Derived.Test.YtlbnbginippjfaaElF
import Derived.OwnWalk
import Derived.Laws.AppendOwn
import Derived.Laws.NewBlocks
import Derived.Laws.OwnMore
import Derived.IntWalk
namespace Go.Proofs.Ytlbnbginippjfaa
open Go.RowKit Fk
/-! The keys of secrets. -/
theorem infoI4 : (Try.prog.info? 3).map (fun i => (i.zero, i.size, i.bytes)) = some (some (.int .i64 0), 1, 8) := by kernel_rfl
theorem own_slI {α : Type} [Inhabited α] {m : Nat} {enc : α → List Value} {w : World} {base n : Nat} {e : TypeId} {v : Value} {l : List α} (h : w.ownsRow base e m v n (l.flatMap enc)) (hm : ∀ a, (enc a).length = m) (hn : n = l.length) (hl : l.length ≤ 9223372036854775807) :
    SlG m enc w w.heap.size v l := by
  subst hn
  rcases h.2 with ⟨rfl, h0⟩ | ⟨g, cap, cur, rfl, hb, hg, hnc, hc, hcs, ht⟩
  · obtain rfl : l = [] := List.eq_nil_of_length_eq_zero h0
    exact SlG.nil_ _ _
  · have hr : Row w g e cur.toList := by show w.heap[g]? = _; rw [hg]
    refine ⟨hl, _, _, rfl, fun hp => ⟨g, 0, rfl, hr.lt, ?_⟩⟩
    have hrow : Row (w.alloc (.cells (l.flatMap enc).toArray e)) w.heap.size e (l.flatMap enc) := Row.new w e _
    obtain ⟨_, A, c, hv, hE⟩ := Row.sl (c := 0) hrow hm hl (B0 := w.heap.size + 1) (by omega)
    obtain ⟨b, off, hA, _, hE⟩ := hE hp
    injection hv with hv1 hv2 hv3
    rw [hA] at hv1
    injection hv1 with hv1
    injection hv1 with hb' ho'
    intro i hi j hj
    have h2 := hE i hi j hj
    rw [← hb', ← ho', hrow.cell] at h2
    rw [hr.cell, ← h2, ← ht, List.getElem?_take_of_lt]
    have : (i + 1) * m ≤ l.length * m := Nat.mul_le_mul_right m (by omega)
    rw [Nat.succ_mul] at this
    omega
theorem cell_one_newI (w : World) (x : Value) (t : TypeId) : ∀ j u, [x][j]? = some u → (w.alloc (.cells #[x] t)).cell? ((⟨w.heap.size, 0, none⟩ : Addr).add j) = some u := by
  intro j u hj
  match j, hj with
  | 0, hj => simp at hj; subst hj; simp [Addr.add]
  | (j + 1), hj => simp at hj
def pubs (l : List Int) : List Int := l.map (powC 4)
theorem joinTo_ok : ∀ (l : List Int), (∀ x ∈ l, vld x = true) → ∀ c, vld c = true → ∃ d, vld d = true ∧ l.foldl (fun (o : Option Int) k => match o with
  | some c => if vld c && vld k then some (c * k % 2147483579) else none
  | none => none) (some c) = some d
  | [], _, c, hc => ⟨c, hc, rfl⟩
  | x :: l, h, c, hc => by
    have hx := h x (by simp)
    obtain ⟨d, h1, h2⟩ := joinTo_ok l (fun y hy => h y (by simp [hy])) (c * x % 2147483579) (vld_times hc hx)
    refine ⟨d, h1, ?_⟩
    rw [List.foldl_cons]
    simp only [hc, hx, Bool.and_self, if_true]
    exact h2
theorem pubs_ok (l : List Int) : joinE (pubs l) = 0 ∧ vld (joinC (pubs l)) = true := by
  obtain ⟨d, h1, h2⟩ := joinTo_ok (pubs l) (fun x hx => by
    obtain ⟨n, _, rfl⟩ := List.mem_map.1 hx
    exact vld_powC vld_4 _) 1 vld_1
  have h3 : joinTo (pubs l) = some d := h2
  unfold joinE joinC
  rw [h3]
  exact ⟨rfl, h1⟩
theorem pubs_snoc {l : List Int} {k : Nat} (h : k < l.length) : (pubs (l.take (k + 1))).flatMap encI = (pubs (l.take k)).flatMap encI ++ [.int .i64 (powC 4 (l.getD k default))] := by
  rw [take_snocI h]; unfold pubs; rw [List.map_append, List.flatMap_append]; rfl
set_option maxRecDepth 100000 in
set_option maxHeartbeats 2000000 in
theorem keys_any (l : List Int) (v : Value) (w : World) (h : SlI w w.heap.size v l) (hok : rightB l = true) :
    Calls Try.prog 22 #[v] w fun e w' => ∃ r, e = .returned (.tuple #[r, .int .i64 (joinC (pubs l)), .bool true]) ∧ Below w.heap.size w w' := by
  have HS := Lib.hid h
  obtain ⟨hall, hle⟩ : (∀ i, i < l.length → secB (l.getD i default) = true) ∧ l.length ≤ 5 := by
    unfold rightB at hok
    simp only [Bool.and_eq_true, decide_eq_true_eq, List.all_eq_true] at hok
    refine ⟨fun i hi => hok.1 _ ?_, hok.2⟩
    rw [List.getD_eq_getElem?_getD, List.getElem?_eq_getElem hi]
    exact List.getElem_mem _
  have HA := Lib.hid hall
  have hj := fun (v : Value) (W : World) (B0 : Nat) (hs : SlI W B0 v (pubs l)) => join_any (pubs l) v W B0 hs
  rw [(pubs_ok l).1] at hj
  obtain ⟨J, hJ⟩ : ∃ J, joinC (pubs l) = J := ⟨_, rfl⟩
  rw [hJ] at hj ⊢
  have HJ := Lib.hid hj
  clear hj hJ hall hok
  obtain ⟨hlen, A, c, rfl, _⟩ := h
  obtain ⟨i0, hi, hz0, hz1, hz2⟩ := info_parts infoI4
  go_enter Try.func22, Try.ntmps22
  go_wp2_with fail
  go_loopg [2, 12] l.length (fun g r x wr => Below w.heap.size w wr ∧ ∃ k : Nat, x = .int .i64 k ∧ k + g = l.length ∧ wr.ownsRow w.heap.size 3 1 r k ((pubs (l.take k)).flatMap encI))
  case atStart => exact ⟨Below.refl _ _, 0, rfl, by omega, by simpa [pubs] using World.ownsRow_nil w _ _ _⟩
  case round =>
    obtain ⟨hBr, k, rfl, hkg, hown⟩ := hrel
    have hzw := hBr.size
    by_cases hlt : k < l.length
    · obtain ⟨_, A', c', hv, hE0⟩ := HS.out.below hBr
      obtain ⟨b, off, rfl, hbb, hE⟩ := hE0 (by omega)
      clear hE0
      cases hv
      have d1 := hE.int hlt
      have hs := HA.out k hlt
      have hps := pubs_snoc hlt
      obtain ⟨x, hx⟩ : ∃ x, l.getD k default = x := ⟨_, rfl⟩
      rw [hx] at d1 hs hps
      have hm := fun w => public_any x w
      rw [pubE_0 hs, show pubC x = powC 4 x by unfold pubC; rw [if_pos hs]] at hm
      obtain ⟨y, hy⟩ : ∃ y, powC 4 x = y := ⟨_, rfl⟩
      rw [hy] at hm hps
      have HM := Lib.hid hm
      have HP := Lib.hid hps
      clear hm hps hs hx hy hE
      go_wp2_with (first
        | (go_at_call 12; refine (HM.out _).mono ?_; rintro e w1 ⟨rfl, hb⟩; replace hown := hown.kept (grown_below hb none) (Classical.em _); replace hBr := hBr.trans (hb.mono hzw); have hzz := hb.size; clear hb)
        | (at_builtin; refine wpList_append_own _ rfl _ _ 22 rfl w.heap.size 3 i0 (.int .i64 0) 1 8 Try.underlying22 hi hz0 hz1 hz2 rfl (by decide) _ _ _ rfl (hown.alloc _) ⟨w1.heap.size, 0, none⟩ 1 1 [.int .i64 y] rfl rfl (cell_one_newI _ _ _) (by simp [Value.oneCell']) (by unfold maxLen; omega) (by omega) (by simp; omega) ?_; intro v' w2 hown' hgrow _))
      go_roundg (gk - 1)
      case measure => omega
      case rel =>
        refine ⟨(hBr.alloc hBr.size _).grown hgrow (by simp; omega) (fun r e => (hown.lt r e).1), k + 1, by go_num, by omega, ?_⟩
        rw [HP.out]
        exact hown'
    · obtain rfl : k = l.length := by omega
      rw [List.take_length] at hown
      have hPr : SlI wr wr.heap.size u2 (pubs l) := own_slI hown (fun _ => rfl) (by simp [pubs]) (by simp [pubs]; omega)
      have hj := HJ.out _ _ _ hPr
      obtain ⟨_, A2, c2, rfl, _⟩ := hPr
      have HJ2 := Lib.hid hj
      clear hj hown HJ
      go_wp2_with (go_at_call 14; refine HJ2.out.mono ?_; rintro e w1 ⟨rfl, rfl⟩)
      go_ret3
      exact ⟨_, rfl, hBr⟩
end Go.Proofs.Ytlbnbginippjfaa
