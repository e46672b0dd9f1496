import Derived.Test.YtlbnbginippjfaaShP
import Derived.Test.YtlbnbginippjfaaSl
import Derived.Test.YtlbnbginippjfaaRest
import Derived.OwnWalk
import Derived.Laws.AppendOwn
namespace Go.Proofs.Ytlbnbginippjfaa
open Go.RowKit Fk

def encSh (x : Sh) : List Value := [.int .i64 x.a, .int .i64 x.v]
abbrev SlSh (w : World) (B0 : Nat) (v : Value) (l : List Sh) : Prop := SlG 2 encSh w B0 v l

set_option maxHeartbeats 400000 in
theorem emod_any (n : Int) (w : World) :
    Calls Try.prog 65 #[.int .i64 n] w fun e w' => e = .returned (.int .i64 (n % 1073741789)) ∧ w = w' := by
  have t1 := Int.tmod_lt_of_pos n (show (0 : Int) < 1073741789 by omega)
  have t2 : -1073741789 < n.tmod 1073741789 := Int.lt_tmod_of_pos n (by omega)
  have H := Lib.hid (tmod_add_mod (n := n) (m := 1073741789) (by omega))
  go_enter Try.func65, Try.ntmps65
  go_wp2
  go_ret
  exact ⟨ret_int H.out, rfl⟩

set_option maxHeartbeats 1000000 in
theorem poly_in (s x : Int) (l : List Int) (v : Value) (bm bs : Nat) (w : World) (B0 : Nat) (hs : 0 ≤ s ∧ s < 1073741789) (hx : 0 ≤ x ∧ x ≤ 1000) (hl : l.length ≤ 1000000)
    (h1 : w.cell? ⟨bm, 0, none⟩ = some v) (h2 : w.cell? ⟨bs, 0, none⟩ = some (.int .i64 s)) (h : SlI w B0 v l) :
    Calls Try.prog 68 #[.int .i64 x, .pointer (some ⟨bm, 0, none⟩), .pointer (some ⟨bs, 0, none⟩)] w fun e w' => e = .returned (.int .i64 (pval s l x)) ∧ w = w' := by
  have HS := Lib.hid h
  obtain ⟨hlen, A, c, rfl, _⟩ := h
  obtain ⟨hx1, hx2⟩ := hx
  obtain ⟨hs1, hs2⟩ := hs
  unfold pval
  go_enter Try.func68, Try.ntmps68
  go_wp2
  go_loopg [5, 6] l.length (fun k p i wr => w = wr ∧ i = .int .i64 ((k : Int) - 1) ∧ k ≤ l.length ∧ p = .int .i64 (hornerQ x (l.drop k)))
  case atStart => exact ⟨rfl, rfl, Nat.le_refl _, by rw [List.drop_length]; rfl⟩
  case round =>
    obtain ⟨rfl, rfl, hk, rfl⟩ := hrel
    have hb := hornerQ_bd x (l.drop gk)
    cases gk with
    | zero =>
      rw [List.drop_zero] at *
      generalize hH : hornerQ x l = H at *
      have HH := Lib.hid hH
      clear hH
      go_wp2
      go_ret
      exact ⟨ret_int (by rw [HH.out]), rfl⟩
    | succ k =>
      rw [show ((k + 1 : Nat) : Int) - 1 = (k : Int) from by omega]
      obtain ⟨_, A', c', hv, hE⟩ := HS.out
      obtain ⟨b, off, rfl, hb2, hE⟩ := hE (by omega)
      cases hv
      have d1 := hE.int (i := k) (by omega)
      have hdr : hornerQ x (l.drop k) = (hornerQ x (l.drop (k + 1)) + l.getD k default % 1073741789) * x % 1073741789 := by
        have hkl : k < l.length := by omega
        rw [List.drop_eq_getElem_cons hkl, hornerQ]
        simp [hkl]
      obtain ⟨m, hm⟩ : ∃ m, l.getD k default = m := ⟨_, rfl⟩
      rw [hm] at d1 hdr
      have HD := Lib.hid hdr
      clear hm hdr hE
      generalize hornerQ x (l.drop (k + 1)) = H at *
      have m0 : 0 ≤ m % 1073741789 ∧ m % 1073741789 < 1073741789 := by omega
      have m1 : 0 ≤ (H + m % 1073741789) * x := Int.mul_nonneg (by omega) (by omega)
      have m2 : (H + m % 1073741789) * x ≤ 2147483578 * 1000 := Int.mul_le_mul (by omega) (by omega) (by omega) (by omega)
      go_wp2_with (go_at_call 65; refine (emod_any _ _).mono ?_; rintro e w' ⟨rfl, rfl⟩)
      go_roundg k
      case measure => omega
      case rel => exact ⟨rfl, by go_num, by omega, by rw [HD.out]⟩

theorem infoSh : (Try.prog.info? 85).map (fun i => (i.zero, i.size, i.bytes)) = some (some (.agg #[.int .i64 0, .int .i64 0]), 2, 16) := by kernel_rfl

/-- an owned row of shares reads as a list -/
theorem own_sl {α : Type} [Inhabited α] {m : Nat} {enc : α → List Value} {w : World} {base n : Nat} {e : TypeId} {v : Value} {l : List α} (h : w.ownsRow base e m v n (l.flatMap enc)) (hm : ∀ a, (enc a).length = m) (hn : n = l.length) (hl : l.length ≤ 9223372036854775807) :
    SlG m enc w w.heap.size v l := by
  subst hn
  rcases h.2 with ⟨rfl, h0⟩ | ⟨g, cap, cur, rfl, hb, hg, hnc, hc, hcs, ht⟩
  · obtain rfl : l = [] := List.eq_nil_of_length_eq_zero h0
    exact SlG.nil_ _ _
  · have hr : Row w g e cur.toList := by show w.heap[g]? = _; rw [hg]
    refine ⟨hl, _, _, rfl, fun hp => ⟨g, 0, rfl, hr.lt, ?_⟩⟩
    have hrow : Row (w.alloc (.cells (l.flatMap enc).toArray e)) w.heap.size e (l.flatMap enc) := Row.new w e _
    obtain ⟨_, A, c, hv, hE⟩ := Row.sl (c := 0) hrow hm hl (B0 := w.heap.size + 1) (by omega)
    obtain ⟨b, off, hA, _, hE⟩ := hE hp
    injection hv with hv1 hv2 hv3
    rw [hA] at hv1
    injection hv1 with hv1
    injection hv1 with hb' ho'
    intro i hi j hj
    have h2 := hE i hi j hj
    rw [← hb', ← ho', hrow.cell] at h2
    rw [hr.cell, ← h2, ← ht, List.getElem?_take_of_lt]
    have : (i + 1) * m ≤ l.length * m := Nat.mul_le_mul_right m (by omega)
    rw [Nat.succ_mul] at this
    omega

set_option maxHeartbeats 400000 in
theorem polynomial_any (s : Int) (A : Option Addr) (n c : Nat) (w : World) :
    Calls Try.prog 64 #[.int .i64 s, .slice A n c] w fun e w' => e = .returned (.func (.func 68) #[] #[.pointer (some ⟨w.heap.size + 1, 0, none⟩), .pointer (some ⟨w.heap.size, 0, none⟩)]) ∧
      (w.alloc (.cells #[.int .i64 s] 3)).alloc (.cells #[.slice A n c] 22) = w' := by
  go_enter Try.func64, Try.ntmps64
  go_wp2
  go_ret
  exact ⟨rfl, rfl⟩

set_option maxRecDepth 100000 in
set_option maxHeartbeats 2000000 in
theorem deal_in (s n : Int) (l : List Int) (v : Value) (w : World) (B0 : Nat) (hB : B0 ≤ w.heap.size) (h : SlI w B0 v l) (hok : dealOK s l.length n) :
    Calls Try.prog 54 #[.int .i64 s, v, .int .i64 n] w fun e w' => ∃ r, e = .returned (.tuple #[r, .int .i64 0]) ∧ Below w.heap.size w w' ∧ SlSh w' w'.heap.size r (dealTo s l n.toNat) := by
  have HS := Lib.hid h
  obtain ⟨hlen, A, c, rfl, _⟩ := h
  obtain ⟨hs1, hs2, hn1, hn2, hk⟩ := hok
  obtain ⟨i0, hi, hz0, hz1, hz2⟩ := info_parts infoSh
  go_enter Try.func54, Try.ntmps54
  go_wp2_with (go_at_call 64; refine (polynomial_any _ _ _ _ _).mono ?_; rintro e w1 ⟨rfl, rfl⟩)
  have hP := fun (W : World) (hW : Below ((w.alloc (.cells #[.int .i64 s] 3)).alloc (.cells #[.slice A l.length c] 22)).heap.size ((w.alloc (.cells #[.int .i64 s] 3)).alloc (.cells #[.slice A l.length c] 22)) W) (x : Int) (hx : 0 ≤ x ∧ x ≤ 1000) =>
    poly_in s x l (.slice A l.length c) (w.heap.size + 1) w.heap.size W B0 ⟨by omega, hs2⟩ hx (by omega)
      ((hW.cell (p := ⟨w.heap.size + 1, 0, none⟩) (by simp)).trans (by simp)) ((hW.cell (p := ⟨w.heap.size, 0, none⟩) (by simp; omega)).trans (by simp))
      (HS.out.belowN (((Below.refl w.heap.size w).alloc (Nat.le_refl _) _).alloc (by simp) _ |>.trans (hW.mono (by simp; omega))) hB)
  have hB0 : Below w.heap.size w ((w.alloc (.cells #[.int .i64 s] 3)).alloc (.cells #[.slice A l.length c] 22)) := ((Below.refl w.heap.size w).alloc (Nat.le_refl _) _).alloc (by simp) _
  have hz : ((w.alloc (.cells #[.int .i64 s] 3)).alloc (.cells #[.slice A l.length c] 22)).heap.size = w.heap.size + 2 := by simp
  obtain ⟨W0, hW0⟩ : ∃ W0, (w.alloc (.cells #[.int .i64 s] 3)).alloc (.cells #[.slice A l.length c] 22) = W0 := ⟨_, rfl⟩
  rw [hW0] at hP hB0 hz ⊢
  clear hW0
  have HP := Lib.hid hP
  have HZ := Lib.hid hz
  have hz' : W0.heap.size ≤ w.heap.size + 2 := by omega
  have hz2' : w.heap.size + 2 ≤ W0.heap.size := by omega
  clear hP hz
  go_loopg [6, 9] n.toNat (fun g r x wr => Below W0.heap.size W0 wr ∧ ∃ k : Nat, x = .int .i64 ((k : Int) + 1) ∧ (k : Int) + g = n ∧ wr.ownsRow W0.heap.size 85 2 r k ((dealTo s l k).flatMap encSh))
  case atStart => exact ⟨Below.refl _ _, 0, rfl, by omega, by simpa [dealTo] using World.ownsRow_nil W0 _ _ _⟩
  case round =>
    obtain ⟨hBr, k, rfl, hkg, hown⟩ := hrel
    have hzw := hBr.size
    by_cases hlt : (k : Int) + 1 ≤ n
    · have hpb := pval_bd s l ((k : Int) + 1)
      have hds := dealTo_succ s l k
      obtain ⟨p, hp⟩ : ∃ p, pval s l ((k : Int) + 1) = p := ⟨_, rfl⟩
      have hc := HP.out wr hBr ((k : Int) + 1) ⟨by omega, by omega⟩
      rw [hp] at hpb hds hc
      have HC := Lib.hid hc
      have HD := Lib.hid hds
      clear hds hc hp
      go_wp2_with (first | (go_at_call 68; refine HC.out.mono ?_; rintro e w1 ⟨rfl, rfl⟩) | (at_builtin; refine wpList_append_own _ rfl _ _ 80 rfl W0.heap.size 85 i0 (.agg #[.int .i64 0, .int .i64 0]) 2 16 Try.underlying80 hi hz0 hz1 hz2 rfl (by decide) _ _ _ rfl (hown.alloc _) ⟨wr.heap.size, 0, none⟩ 1 1 [.int .i64 ((k : Int) + 1), .int .i64 p] rfl rfl (cell_two_new _ _ _ _) (by simp [Value.oneCell']) (by unfold maxLen; omega) (by omega) (by simp; omega) ?_; intro v' w2 hown' hgrow _))
      go_roundg (gk - 1)
      case measure => omega
      case rel =>
        refine ⟨(hBr.alloc hBr.size _).grown hgrow (by simp; omega) (fun r e => (hown.lt r e).1), k + 1, by go_num, by omega, ?_⟩
        rw [HD.out, List.flatMap_append]
        exact hown'
    · obtain rfl : n = (k : Int) := by omega
      have hr : Hid (SlSh wr wr.heap.size u6 (dealTo s l (k : Int).toNat)) := own_sl hown (fun _ => rfl) (by simp [dealTo_length]) (by simp [dealTo_length]; omega)
      have hBf : Below w.heap.size w wr := hB0.trans (hBr.mono (by omega))
      clear hown
      go_wp2
      go_ret2
      exact ⟨_, rfl, hBf, hr.out⟩

set_option maxHeartbeats 1000000 in
theorem deal_bad (s n : Int) (A : Option Addr) (k c : Nat) (w : World) (_hk : k ≤ 9223372036854775807) (hok : ¬ dealOK s k n) :
    Calls Try.prog 54 #[.int .i64 s, .slice A k c, .int .i64 n] w fun e w' => e = .returned (.tuple #[.slice none 0 0, .int .i64 (dealE s k n)]) ∧ w = w' := by
  unfold dealOK at hok
  by_cases h1 : s < 1
  · have q : dealE s k n = 110 := by unfold dealE; rw [if_pos (by omega)]
    rw [q]; clear q hok
    go_enter Try.func54, Try.ntmps54
    go_wp2
    go_ret2
    exact ⟨rfl, rfl⟩
  by_cases h2 : 1073741789 ≤ s
  · have q : dealE s k n = 110 := by unfold dealE; rw [if_pos (by omega)]
    rw [q]; clear q hok
    go_enter Try.func54, Try.ntmps54
    go_wp2
    go_ret2
    exact ⟨rfl, rfl⟩
  have q : dealE s k n = 1 := by unfold dealE; rw [if_neg (by omega), if_pos (by omega)]
  rw [q]; clear q
  have hc : n < 1 ∨ 24 < n ∨ n ≤ k := by omega
  clear hok
  rcases hc with h3 | h3 | h3
  all_goals
    go_enter Try.func54, Try.ntmps54
    go_wp2
    all_goals go_ret2
    all_goals exact ⟨rfl, rfl⟩

theorem deal_any (s n : Int) (l : List Int) (v : Value) (w : World) (B0 : Nat) (hB : B0 ≤ w.heap.size) (h : SlI w B0 v l) :
    Calls Try.prog 54 #[.int .i64 s, v, .int .i64 n] w fun e w' => ∃ r, e = .returned (.tuple #[r, .int .i64 (dealE s l.length n)]) ∧ Below w.heap.size w w' ∧ SlSh w' w'.heap.size r (dealV s l n) := by
  by_cases hok : dealOK s l.length n
  · have q : dealE s l.length n = 0 := by unfold dealOK at hok; unfold dealE; rw [if_neg (by omega), if_neg (by omega)]
    have q2 : dealV s l n = dealTo s l n.toNat := by unfold dealV; rw [if_pos q]
    rw [q, q2]
    exact deal_in s n l v w B0 hB h hok
  · have q : dealE s l.length n ≠ 0 := by
      unfold dealOK at hok; unfold dealE
      split
      · omega
      · split
        · omega
        · omega
    have q2 : dealV s l n = [] := by unfold dealV; rw [if_neg q]
    rw [q2]
    obtain ⟨hlen, A, c, rfl, _⟩ := h
    exact (deal_bad s n A l.length c w hlen hok).mono fun e w' ⟨he, hw⟩ => ⟨_, he, hw ▸ Below.refl _ _, SlG.nil_ _ _⟩
end Go.Proofs.Ytlbnbginippjfaa
