import Derived.Test.YtlenfjpogmmfhaaKey2
import Derived.Test.YtlenfjpogmmfhaaEpR
namespace Go.Proofs.Ytlenfjpogmmfhaa
open Go.RowKit Fk

theorem ret_xbx {x y : Value} {b b' : Bool} (h : b = b') : Ending.returned (.tuple #[x, .bool b, y]) = .returned (.tuple #[x, .bool b', y]) := by rw [h]

set_option maxHeartbeats 400000 in
theorem refepcheck_nil (A : Option Addr) (c : Nat) (w : World) :
    Calls Try.prog 29 #[.slice A 0 c] w fun e w' => e = .returned (.int .i64 0) ∧ Below w.heap.size w w' := by
  go_enter Try.func29, Try.ntmps29
  go_wp2
  refine wp_loop_rounds 1 ?_
  rw [rounds_succ]
  go_wp2
  go_ret
  exact ⟨rfl, Below.refl _ _⟩
set_option maxHeartbeats 400000 in
theorem refepcheck_long (A : Option Addr) (n c : Nat) (hn : 256 < n) (w : World) :
    Calls Try.prog 29 #[.slice A n c] w fun e w' => e = .returned (.int .i64 2) ∧ Below w.heap.size w w' := by
  go_enter Try.func29, Try.ntmps29
  go_wp2
  go_ret
  exact ⟨rfl, Below.refl _ _⟩
theorem refepcheck_any (l : List Ep) (v : Value) (w : World) (B0 : Nat) (hB : B0 ≤ w.heap.size) (h : SlEp w B0 v l) :
    Calls Try.prog 29 #[v] w fun e w' => e = .returned (.int .i64 (chkE l)) ∧ Below w.heap.size w w' := by
  obtain ⟨hl, A, c, rfl, h3⟩ := h
  by_cases hlong : 256 < l.length
  · rw [chkE_long hlong]; exact refepcheck_long A _ c hlong w
  by_cases hp : 0 < l.length
  · obtain ⟨b, off, rfl, hb, hE⟩ := h3 hp
    exact refepcheck_in l b off c w (by omega) hE hlong hp
  · obtain rfl : l = [] := List.eq_nil_of_length_eq_zero (by omega)
    rw [chkE_good hlong (fun i hi => absurd hi (by simp))]
    exact refepcheck_nil A c w

set_option maxHeartbeats 400000 in
theorem refkey_bad (l : List Ep) (v : Value) (o t : Int) (w : World) (B0 : Nat) (hB : B0 ≤ w.heap.size) (h : SlEp w B0 v l) (hc : chkE l ≠ 0) :
    Calls Try.prog 27 #[v, .int .i64 o, .int .i64 t] w fun e w' => e = .returned (.tuple #[.int .i64 0, .bool false, .int .i64 (chkE l)]) ∧ Below w.heap.size w w' := by
  have hc' : (chkE l != 0) = true := by rw [bne_iff_ne]; exact hc
  have HC := Lib.hid (refepcheck_any l v w B0 hB h)
  clear hc h
  go_enter Try.func27, Try.ntmps27
  go_wp2_with (go_at_call 29; refine HC.out.mono ?_; rintro e w1 ⟨rfl, hb1⟩)
  go_ret3
  exact ⟨rfl, hb1⟩

set_option maxHeartbeats 800000 in
theorem refkey_arg (l : List Ep) (v : Value) (o t : Int) (w : World) (B0 : Nat) (hB : B0 ≤ w.heap.size) (h : SlEp w B0 v l) (hc : chkE l = 0) (ha : ¬ argsOK o t) :
    Calls Try.prog 27 #[v, .int .i64 o, .int .i64 t] w fun e w' => e = .returned (.tuple #[.int .i64 0, .bool false, .int .i64 1]) ∧ Below w.heap.size w w' := by
  have hck := refepcheck_any l v w B0 hB h
  rw [hc] at hck
  have HC := Lib.hid hck
  clear hck hc h
  unfold argsOK at ha
  have hcs : o < 0 ∨ t < 0 ∨ 24 ≤ o ∨ 2097152 ≤ t := by omega
  clear ha
  rcases hcs with h1 | h1 | h1 | h1
  all_goals
    go_enter Try.func27, Try.ntmps27
    go_wp2_with (go_at_call 29; refine HC.out.mono ?_; rintro e w1 ⟨rfl, hb1⟩)
    all_goals go_ret3
    all_goals exact ⟨rfl, hb1⟩

set_option maxHeartbeats 1000000 in
theorem refkey_good (l : List Ep) (v : Value) (o t : Int) (w : World) (B0 : Nat) (hB : B0 ≤ w.heap.size) (h : SlEp w B0 v l) (hc : chkE l = 0) (ha : argsOK o t) :
    Calls Try.prog 27 #[v, .int .i64 o, .int .i64 t] w fun e w' => e = .returned (.tuple #[.int .i64 (keyV l o t), .bool (okV l o t), .int .i64 0]) ∧ Below w.heap.size w w' := by
  have hck := refepcheck_any l v w B0 hB h
  rw [hc] at hck
  have HC := Lib.hid hck
  have HG := Lib.hid (chkE_zero hc)
  have HS := Lib.hid h
  obtain ⟨hl, A, c, rfl, _⟩ := h
  clear hck hc
  obtain ⟨h1, h2, h3, h4⟩ := ha
  go_enter Try.func27, Try.ntmps27
  go_wp2_with (go_at_call 29; refine HC.out.mono ?_; rintro e w1 ⟨rfl, hb1⟩)
  go_loopg [10, 11] l.length (fun g kv i wr => Below w.heap.size w wr ∧ ∃ k : Nat, i = .int .i64 k ∧ k + g = l.length ∧ kv = .int .i64 (lastK (selL (l.take k) o t)))
  case atStart => exact ⟨hb1, 0, rfl, by omega, rfl⟩
  case round =>
    obtain ⟨hBr, k, rfl, hk, rfl⟩ := hrel
    by_cases hlt : k < l.length
    · have HS' := HS.out.below (hBr.mono hB)
      obtain ⟨_, A', c', hv, hE⟩ := HS'
      obtain ⟨b, off, rfl, hb, hE⟩ := hE (by omega)
      cases hv
      obtain ⟨d1, d2, d3⟩ := hE k hlt
      have hts := take_snocD hlt
      obtain ⟨x, hx⟩ : ∃ x, l.getD k default = x := ⟨_, rfl⟩
      rw [hx] at d1 d2 d3 hts
      have hsn := selL_snoc (l.take k) o t x
      rw [← hts] at hsn
      have H := Lib.hid hsn
      clear hsn hts hx hE
      generalize selL (l.take k) o t = S at *
      by_cases ho : (x.o == o) = true
      · by_cases hf : x.f ≤ t
        · have e1 : Hid (lastK (selL (l.take (k + 1)) o t) = x.k) := by show _ = _; rw [H.out, if_pos (by simp [hf]; simpa using ho), lastK_snoc]
          clear H
          go_wp2
          go_roundg (gk - 1)
          case measure => omega
          case rel => exact ⟨hBr, k + 1, by go_num, by omega, by rw [e1.out]⟩
        · have e1 : Hid (selL (l.take (k + 1)) o t = S) := by show _ = _; rw [H.out, if_neg (by simp [hf])]
          clear H
          go_wp2
          go_roundg (gk - 1)
          case measure => omega
          case rel => exact ⟨hBr, k + 1, by go_num, by omega, by rw [e1.out]⟩
      · have ho' : (x.o == o) = false := by simpa using ho
        have e1 : Hid (selL (l.take (k + 1)) o t = S) := by show _ = _; rw [H.out, if_neg (by simp [ho'])]
        clear H ho
        go_wp2
        go_roundg (gk - 1)
        case measure => omega
        case rel => exact ⟨hBr, k + 1, by go_num, by omega, by rw [e1.out]⟩
    · obtain rfl : k = l.length := by omega
      have e1 : lastK (selL (l.take l.length) o t) = keyV l o t := by rw [List.take_length, keyV, upTo_sel HG.out]
      have e2 := lastK_ne HG.out o t
      rw [e1]
      have H := Lib.hid e2
      clear e1 e2
      go_wp2
      go_ret3
      exact ⟨ret_xbx H.out.symm, hBr⟩
theorem refkey_any (l : List Ep) (v : Value) (o t : Int) (w : World) (B0 : Nat) (hB : B0 ≤ w.heap.size) (h : SlEp w B0 v l) :
    Calls Try.prog 27 #[v, .int .i64 o, .int .i64 t] w fun e w' => e = .returned (.tuple #[.int .i64 (keyC l o t), .bool (okC l o t), .int .i64 (keyE l o t)]) ∧ Below w.heap.size w w' := by
  unfold keyC okC keyE
  by_cases hc : chkE l = 0
  · by_cases ha : argsOK o t
    · rw [if_pos ⟨hc, ha⟩, if_pos ⟨hc, ha⟩, if_pos hc, if_pos ha]; exact refkey_good l v o t w B0 hB h hc ha
    · rw [if_neg (fun q => ha q.2), if_neg (fun q => ha q.2), if_pos hc, if_neg ha]; exact refkey_arg l v o t w B0 hB h hc ha
  · rw [if_neg (fun q => hc q.1), if_neg (fun q => hc q.1), if_neg hc]; exact refkey_bad l v o t w B0 hB h hc
end Go.Proofs.Ytlenfjpogmmfhaa
