import Derived.Test.YtlenfjpogmmfhaaSame
namespace Go.Proofs.Ytlenfjpogmmfhaa
open Go.RowKit Fk

open Classical in
noncomputable def formB (l : List Sh) : Bool := decide (formedS l)
theorem formB_true {l : List Sh} (h : formedS l) : formB l = true := by unfold formB; simpa using h
theorem formB_false {l : List Sh} (h : ¬ formedS l) : formB l = false := by unfold formB; simpa using h

theorem next_ne {l : List Sh} {x : Sh} {k : Nat} (h : ∀ j, j < k → (l.getD j default).a ≠ x.a) (hk : (l.getD k default).a ≠ x.a) : ∀ j, j < k + 1 → (l.getD j default).a ≠ x.a := fun j hj => by
  rcases Nat.lt_or_ge j k with h1 | h1
  · exact h j h1
  · obtain rfl : j = k := by omega
    exact hk

set_option maxRecDepth 100000 in
set_option maxHeartbeats 2000000 in
theorem rformed_any (l : List Sh) (v : Value) (w : World) (B0 : Nat) (hB : B0 ≤ w.heap.size) (h : SlSh w B0 v l) :
    Calls Try.prog 49 #[v] w fun e w' => e = .returned (.bool (formB l)) ∧ Below w.heap.size w w' := by
  have HS := Lib.hid h
  obtain ⟨hlen, A, c, rfl, _⟩ := h
  by_cases h0 : l.length < 1
  · have q := Lib.hid (formB_false (l := l) fun hc => by have := hc.1; omega)
    go_enter Try.func49, Try.ntmps49
    go_wp2
    all_goals go_ret
    all_goals exact ⟨ret_bool q.out.symm, Below.refl _ _⟩
  by_cases h24 : 24 < l.length
  · have q := Lib.hid (formB_false (l := l) fun hc => by have := formed_le hc; omega)
    go_enter Try.func49, Try.ntmps49
    go_wp2
    all_goals go_ret
    all_goals exact ⟨ret_bool q.out.symm, Below.refl _ _⟩
  go_enter Try.func49, Try.ntmps49
  go_wp2
  go_loopg [3] l.length (fun g i wr => Below w.heap.size w wr ∧ ∃ k : Nat, i = .int .i64 k ∧ k + g = l.length ∧ (∀ j, j < k → shAt l j))
  case atStart => exact ⟨Below.refl _ _, 0, rfl, by omega, fun j hj => by omega⟩
  case round =>
    obtain ⟨hBr, k, rfl, hk, hgood⟩ := hrel
    by_cases hlt : k < l.length
    · obtain ⟨_, A', c', hv, hE0⟩ := HS.out.below (hBr.mono hB)
      obtain ⟨b, off, rfl, hb, hE⟩ := hE0 (by omega)
      clear hE0
      cases hv
      have d1 := hE k hlt 0 (by omega)
      have d2 := hE k hlt 1 (by omega)
      have hNo : ¬ shAt l k → formB l = false := fun hn => formB_false fun hc => hn (hc.2 k hlt)
      have hAt : ∀ x, l.getD k default = x → shOK x → (∀ j, j < k → (l.getD j default).a ≠ x.a) → shAt l k := fun x hx h1 h2 => by unfold shAt; rw [hx]; exact ⟨h1, h2⟩
      have hAt2 : ∀ x, l.getD k default = x → shAt l k → shOK x ∧ ∀ j, j < k → (l.getD j default).a ≠ x.a := fun x hx h1 => by unfold shAt at h1; rw [hx] at h1; exact h1
      obtain ⟨x, hx⟩ : ∃ x, l.getD k default = x := ⟨_, rfl⟩
      have HA := Lib.hid (hAt x hx)
      have HA2 := Lib.hid (hAt2 x hx)
      have HN := Lib.hid hNo
      have HG := Lib.hid hgood
      rw [hx] at d1 d2
      simp only [encSh, List.getD_cons_zero, List.getD_cons_succ, Nat.add_zero] at d1 d2
      clear hx hAt hAt2 hE hgood hNo
      by_cases ha1 : x.a < 1
      · have q := Lib.hid (HN.out (fun hc => by have := (HA2.out hc).1.1; omega))
        go_wp2
        all_goals go_ret
        all_goals exact ⟨ret_bool q.out.symm, hBr⟩
      by_cases ha2 : 24 < x.a
      · have q := Lib.hid (HN.out (fun hc => by have := (HA2.out hc).1.2.1; omega))
        go_wp2
        all_goals go_ret
        all_goals exact ⟨ret_bool q.out.symm, hBr⟩
      by_cases hv1 : x.v < 0
      · have q := Lib.hid (HN.out (fun hc => by have := (HA2.out hc).1.2.2.1; omega))
        go_wp2
        all_goals go_ret
        all_goals exact ⟨ret_bool q.out.symm, hBr⟩
      by_cases hv2 : 1073741789 ≤ x.v
      · have q := Lib.hid (HN.out (fun hc => by have := (HA2.out hc).1.2.2.2; omega))
        go_wp2
        all_goals go_ret
        all_goals exact ⟨ret_bool q.out.symm, hBr⟩
      obtain ⟨G, rfl⟩ : ∃ G : Nat, G = gk := ⟨_, rfl⟩
      obtain ⟨wo, rfl⟩ : ∃ wo : World, wo = wr := ⟨_, rfl⟩
      go_wp2
      go_loopg [4] k (fun g i wr2 => Below wo.heap.size wo wr2 ∧ ∃ k2 : Nat, i = .int .i64 k2 ∧ k2 + g = k ∧ (∀ j, j < k2 → (l.getD j default).a ≠ x.a))
      case atStart => exact ⟨Below.refl _ _, 0, rfl, by omega, fun j hj => by omega⟩
      case round =>
        obtain ⟨hBi, k2, rfl, hk2, hne⟩ := hrel
        have hBw : Below w.heap.size w wr := hBr.trans (hBi.mono hBr.size)
        by_cases hlt2 : k2 < k
        · obtain ⟨_, A3, c3, hv, hE1⟩ := HS.out.below (hBw.mono hB)
          obtain ⟨b2, off2, e3, hb2, hE2⟩ := hE1 (by omega)
          clear hE1
          subst e3
          injection hv with e1 _ e2
          injection e1 with e1
          injection e1 with e3 e4
          subst e3 e4 e2
          have f1 := hE2 k2 (by omega) 0 (by omega)
          have D := (bcellK hBi).1 b (off + k * 2) (by have := hBr.size; omega)
          have hcell : wr.cell? ⟨b, off + k * 2, none⟩ = some (.int .i64 x.a) := D.trans d1
          have hnx := next_ne (l := l) (x := x) hne
          have hbad : (l.getD k2 default).a = x.a → ¬ shAt l k := fun e hc => (HA2.out hc).2 k2 hlt2 e
          clear hE2 D d1 d2
          obtain ⟨y, hy⟩ : ∃ y, l.getD k2 default = y := ⟨_, rfl⟩
          rw [hy] at f1 hnx hbad
          simp only [encSh, List.getD_cons_zero, Nat.add_zero] at f1
          have HX := Lib.hid hnx
          have HBad := Lib.hid hbad
          clear hy hne hnx hbad
          have s1 : (k2 : Int) < (k : Int) := by omega
          have s2 : (0 : Int) ≤ (k2 : Int) := by omega
          have s3 : ((k2 : Int)).toNat = k2 := by omega
          have s4 : (k2 : Int) < l.length := by omega
          have s5 : (0 : Int) ≤ (k : Int) := by omega
          have s6 : ((k : Int)).toNat = k := by omega
          have s7 : (k : Int) < l.length := by omega
          by_cases hya : y.a = x.a
          · have q := Lib.hid (HN.out (HBad.out hya))
            have s8 : (y.a == x.a) = true := by simpa using hya
            clear hya
            go_wp2
            go_quiet (fail)
            clear s1 s2 s3 s4 s5 s6 s7
            go_wp2
            all_goals go_ret
            all_goals exact ⟨ret_bool q.out.symm, by first | exact hBw | exact below_drewN hBw _⟩
          · have hnx2 := Lib.hid (HX.out hya)
            have s8 : (y.a == x.a) = false := by simpa using hya
            clear hya
            go_wp2
            go_quiet (fail)
            clear s1 s2 s3 s4 s5 s6 s7
            go_wp2
            go_roundg (gk - 1)
            case measure => omega
            case rel => exact ⟨by first | exact hBi | exact below_drewN hBi _, k2 + 1, by go_num, by omega, hnx2.out⟩
        · have hAt := Lib.hid (next_sh HG.out (HA.out ⟨by omega, by omega, by omega, by omega⟩ (fun j hj => hne j (by omega))))
          clear hne
          go_wp2
          go_roundg (G - 1)
          case measure => omega
          case rel => exact ⟨hBw, k + 1, by go_num, by omega, hAt.out⟩
    · have q := Lib.hid (formB_true (l := l) ⟨by omega, fun i hi => hgood i (by omega)⟩)
      clear hgood
      go_wp2
      go_ret
      exact ⟨ret_bool q.out.symm, hBr⟩
end Go.Proofs.Ytlenfjpogmmfhaa
