import Derived.Deep.QuietTactic
import Derived.BigQuiet
import Derived.RegionTactic
import Derived.ChangeAlike
import Derived.BigRegion
import Derived.Test.YthboebhghaabnaaDoorChecked
import Derived.OpenShut
import Derived.ChangeSlices
import Derived.Deep.Slices
import Derived.Deep.Fields
import Derived.ChangeSame
import Derived.Carry
import Derived.ChangeMaps5
import Derived.Below
import Derived.Test.YthboebhghaabnaaDoorRows
import Derived.LaidMore
import Derived.Stop.Joined
import Derived.ProofKit
import Derived.Test.YthboebhghaabnaaDoorPsj
set_option linter.unusedSimpArgs false
set_option linter.unusedVariables false
namespace Go.Proofs.YthboebhghaabnaaDoor
open Go.RowKit Fk Sha
/-! The reference of law 14: bits, permutations. -/
theorem bits_no {l : List Int} {k : Nat} (hk : k < l.length) (h0 : l.getD k default ≠ 0) (h1 : l.getD k default ≠ 1) : l.all bitB = false := by
  rw [Bool.eq_false_iff]
  intro h
  rcases bit_at h hk with h | h
  · exact h0 h
  · exact h1 h
theorem bits_yes {l : List Int} (h : ∀ j, j < l.length → l.getD j default = 0 ∨ l.getD j default = 1) : l.all bitB = true := by
  rw [List.all_eq_true]
  intro x hx
  obtain ⟨j, hj, rfl⟩ := List.getElem_of_mem hx
  have := h j hj
  rw [getD_eq_getElem' hj] at this
  unfold bitB
  rcases this with e | e <;> rw [e] <;> rfl
set_option maxRecDepth 100000 in
set_option maxHeartbeats 1000000 in
theorem rbits_any (l : List Int) (v : Value) (w : World) (h : SlI w w.heap.size v l) :
    Calls Tryd.prog 46 #[v] w fun e w' => e = .returned (.bool (l.all bitB)) ∧ Below w.heap.size w w' := by
  have HS := Lib.hid h
  obtain ⟨hlen, A, c, rfl, _⟩ := h
  go_enter Tryd.func46, Tryd.ntmps46
  go_wp2
  go_loopg [3] l.length (fun g i wr => Below w.heap.size w wr ∧ ∃ k : Nat, i = .int .i64 k ∧ k + g = l.length ∧ ∀ j, j < k → l.getD j default = 0 ∨ l.getD j default = 1)
  case atStart => exact ⟨Below.refl _ _, 0, rfl, by omega, fun j hj => by omega⟩
  case round =>
    obtain ⟨hBr, k, rfl, hk, hgood⟩ := hrel
    by_cases hlt : k < l.length
    · obtain ⟨_, A', c', hv, hE⟩ := HS.out.below hBr
      obtain ⟨b, off, rfl, hb, hE⟩ := hE (by omega)
      cases hv
      have d1 := hE.int hlt
      have hno := bits_no (l := l) hlt
      have hnx : (l.getD k default = 0 ∨ l.getD k default = 1) → ∀ j, j < k + 1 → l.getD j default = 0 ∨ l.getD j default = 1 := fun h j hj => by
        rcases Nat.lt_or_ge j k with h1 | h1
        · exact hgood j h1
        · obtain rfl : j = k := by omega
          exact h
      generalize l.getD k default = x at d1 hno hnx
      clear hE hgood
      have HN := Lib.hid hno
      have HX := Lib.hid hnx
      clear hno hnx
      by_cases h0 : x = 0
      · subst h0
        have q := Lib.hid (HX.out (.inl rfl))
        go_wp2
        go_roundg (gk - 1)
        case measure => omega
        case rel => exact ⟨hBr, k + 1, by go_num, by omega, q.out⟩
      by_cases h1 : x = 1
      · subst h1
        have q := Lib.hid (HX.out (.inr rfl))
        go_wp2
        go_roundg (gk - 1)
        case measure => omega
        case rel => exact ⟨hBr, k + 1, by go_num, by omega, q.out⟩
      have q := Lib.hid (HN.out h0 h1)
      have s0 : (x != 0) = true := by simpa using h0
      have s1 : (x != 1) = true := by simpa using h1
      clear h0 h1
      go_wp2
      go_ret
      exact ⟨ret_bool q.out.symm, hBr⟩
    · have q := Lib.hid (bits_yes (l := l) fun j hj => hgood j (by omega))
      clear hgood
      go_wp2
      go_ret
      exact ⟨ret_bool q.out.symm, hBr⟩
def atB (l : List Int) (k : Nat) : Prop := (0 ≤ l.getD k default ∧ l.getD k default < l.length) ∧ ∀ j, j < k → l.getD j default ≠ l.getD k default
theorem perm_yes {l : List Int} (h : ∀ k, k < l.length → atB l k) : permB l = true := by
  refine permB_iff.2 ⟨nodup_of_inj fun i j hij hj => (h j hj).2 i hij, fun x hx => ?_⟩
  obtain ⟨j, hj, rfl⟩ := List.getElem_of_mem hx
  have := (h j hj).1
  rw [getD_eq_getElem' hj] at this
  exact this
theorem perm_no {l : List Int} {k : Nat} (hk : k < l.length) (h : ¬ atB l k) : permB l = false := by
  rw [Bool.eq_false_iff]
  intro hp
  refine h ⟨permB_at hp hk, fun j hj e => ?_⟩
  have := nodup_inj (permB_iff.1 hp).1 (by omega) hk e
  omega
set_option maxRecDepth 100000 in
set_option maxHeartbeats 2000000 in
theorem rperm_any (l : List Int) (v : Value) (w : World) (h : SlI w w.heap.size v l) :
    Calls Tryd.prog 25 #[v] w fun e w' => e = .returned (.bool (permB l)) ∧ Below w.heap.size w w' := by
  have HS := Lib.hid h
  obtain ⟨hlen, A, c, rfl, _⟩ := h
  go_enter Tryd.func25, Tryd.ntmps25
  go_wp2
  go_loopg [3] l.length (fun g i wr => Below w.heap.size w wr ∧ ∃ k : Nat, i = .int .i64 k ∧ k + g = l.length ∧ (∀ j, j < k → atB l j))
  case atStart => exact ⟨Below.refl _ _, 0, rfl, by omega, fun j hj => by omega⟩
  case round =>
    obtain ⟨hBr, k, rfl, hk, hgood⟩ := hrel
    by_cases hlt : k < l.length
    · obtain ⟨_, A', c', hv, hE0⟩ := HS.out.below hBr
      obtain ⟨b, off, rfl, hb, hE⟩ := hE0 (by omega)
      clear hE0
      cases hv
      have d1 := hE.int hlt
      have hNo : ¬ atB l k → permB l = false := perm_no hlt
      have hAt : ∀ x, l.getD k default = x → (0 ≤ x ∧ x < l.length) → (∀ j, j < k → l.getD j default ≠ x) → atB l k := fun x hx h1 h2 => by unfold atB; rw [hx]; exact ⟨h1, h2⟩
      have hAt2 : ∀ x, l.getD k default = x → atB l k → (0 ≤ x ∧ x < l.length) ∧ ∀ j, j < k → l.getD j default ≠ x := fun x hx h1 => by unfold atB at h1; rw [hx] at h1; exact h1
      have hsn : atB l k → ∀ j, j < k + 1 → atB l j := fun h j hj => by
        rcases Nat.lt_or_ge j k with h1 | h1
        · exact hgood j h1
        · obtain rfl : j = k := by omega
          exact h
      obtain ⟨x, hx⟩ : ∃ x, l.getD k default = x := ⟨_, rfl⟩
      have HA := Lib.hid (hAt x hx)
      have HA2 := Lib.hid (hAt2 x hx)
      have HN := Lib.hid hNo
      have HG := Lib.hid hsn
      rw [hx] at d1
      clear hx hAt hAt2 hE hgood hNo hsn
      by_cases ha1 : x < 0
      · have q := Lib.hid (HN.out (fun hc => by have := (HA2.out hc).1.1; omega))
        go_wp2
        all_goals go_ret
        all_goals exact ⟨ret_bool q.out.symm, hBr⟩
      by_cases ha2 : (l.length : Int) ≤ x
      · have q := Lib.hid (HN.out (fun hc => by have := (HA2.out hc).1.2; omega))
        go_wp2
        all_goals go_ret
        all_goals exact ⟨ret_bool q.out.symm, hBr⟩
      obtain ⟨G, rfl⟩ : ∃ G : Nat, G = gk := ⟨_, rfl⟩
      obtain ⟨wo, rfl⟩ : ∃ wo : World, wo = wr := ⟨_, rfl⟩
      go_wp2
      go_loopg [4] k (fun g i wr2 => Below wo.heap.size wo wr2 ∧ ∃ k2 : Nat, i = .int .i64 k2 ∧ k2 + g = k ∧ (∀ j, j < k2 → l.getD j default ≠ x))
      case atStart => exact ⟨Below.refl _ _, 0, rfl, by omega, fun j hj => by omega⟩
      case round =>
        obtain ⟨hBi, k2, rfl, hk2, hne⟩ := hrel
        have hBw : Below w.heap.size w wr := hBr.trans (hBi.mono hBr.size)
        by_cases hlt2 : k2 < k
        · obtain ⟨_, A3, c3, hv, hE1⟩ := HS.out.below hBw
          obtain ⟨b2, off2, e3, hb2, hE2⟩ := hE1 (by omega)
          clear hE1
          subst e3
          injection hv with e1 _ e2
          injection e1 with e1
          injection e1 with e3 e4
          subst e3 e4 e2
          have f1 := hE2.int (i := k2) (by omega)
          have D := (bcellK hBi).1 b (off + k) (by have := hBr.size; omega)
          have hcell : wr.cell? ⟨b, off + k, none⟩ = some (.int .i64 x) := D.trans d1
          have hnx : l.getD k2 default ≠ x → ∀ j, j < k2 + 1 → l.getD j default ≠ x := fun h j hj => by
            rcases Nat.lt_or_ge j k2 with h1 | h1
            · exact hne j h1
            · obtain rfl : j = k2 := by omega
              exact h
          have hbad : l.getD k2 default = x → ¬ atB l k := fun e hc => (HA2.out hc).2 k2 hlt2 e
          clear hE2 D d1
          obtain ⟨y, hy⟩ : ∃ y, l.getD k2 default = y := ⟨_, rfl⟩
          rw [hy] at f1 hnx hbad
          have HX := Lib.hid hnx
          have HBad := Lib.hid hbad
          clear hy hne hnx hbad
          have s1 : (k2 : Int) < (k : Int) := by omega
          have s2 : (0 : Int) ≤ (k2 : Int) := by omega
          have s3 : ((k2 : Int)).toNat = k2 := by omega
          have s4 : (k2 : Int) < l.length := by omega
          have s5 : (0 : Int) ≤ (k : Int) := by omega
          have s6 : ((k : Int)).toNat = k := by omega
          have s7 : (k : Int) < l.length := by omega
          by_cases hya : y = x
          · have q := Lib.hid (HN.out (HBad.out hya))
            have s8 : (y == x) = true := by simpa using hya
            clear hya
            go_wp2
            go_quiet (fail)
            clear s1 s2 s3 s4 s5 s6 s7
            go_wp2
            all_goals go_ret
            all_goals exact ⟨ret_bool q.out.symm, by first | exact hBw | exact below_drewN hBw _ | exact hBw.trans (below_drewN _ _ _)⟩
          · have hnx2 := Lib.hid (HX.out hya)
            have s8 : (y == x) = false := by simpa using hya
            clear hya
            go_wp2
            go_quiet (fail)
            clear s1 s2 s3 s4 s5 s6 s7
            go_wp2
            go_roundg (gk - 1)
            case measure => omega
            case rel => exact ⟨by first | exact hBi | exact below_drewN hBi _ | exact hBi.trans (below_drewN _ _ _), k2 + 1, by go_num, by omega, hnx2.out⟩
        · have hAt := Lib.hid (HG.out (HA.out ⟨by omega, by omega⟩ (fun j hj => hne j (by omega))))
          clear hne
          go_wp2
          go_roundg (G - 1)
          case measure => omega
          case rel => exact ⟨hBw, k + 1, by go_num, by omega, hAt.out⟩
    · have q := Lib.hid (perm_yes (l := l) fun i hi => hgood i (by omega))
      clear hgood
      go_wp2
      go_ret
      exact ⟨ret_bool q.out.symm, hBr⟩
end Go.Proofs.YthboebhghaabnaaDoor

set_option linter.unusedSimpArgs false
set_option linter.unusedVariables false
namespace Go.Proofs.YthboebhghaabnaaDoor
open Go.RowKit Fk Sha
/-! The reference of law 14: the places of letters, and the whole. -/
theorem leftTo_succ (bits : List Int) (l o : List Og) (k : Nat) : leftTo bits l o (k + 1) = leftTo bits l o k ++ [leftAt bits l o k] := map_range_snoc _ _
theorem rightTo_succ (bits : List Int) (l o : List Og) (k : Nat) : rightTo bits l o (k + 1) = rightTo bits l o k ++ [rightAt bits l o k] := map_range_snoc _ _
set_option maxRecDepth 100000 in
set_option maxHeartbeats 2000000 in
theorem rplaces_any (bits : List Int) (l o : List Og) (v0 v1 v2 : Value) (w : World) (hb : SlI w w.heap.size v0 bits) (hl : SlG 36 Og.cells w w.heap.size v1 l) (ho : SlG 36 Og.cells w w.heap.size v2 o) (h1 : l.length = bits.length) (h2 : o.length = bits.length) (h64 : bits.length ≤ 1000000) :
    Calls Tryd.prog 27 #[v0, v1, v2] w fun e w' => ∃ a b, e = .returned (.tuple #[a, b]) ∧ Below w.heap.size w w' ∧ SlI w' w'.heap.size a (leftTo bits l o bits.length) ∧ SlI w' w'.heap.size b (rightTo bits l o bits.length) := by
  have HS := Lib.hid hb
  have HL := Lib.hid hl
  have HO := Lib.hid ho
  obtain ⟨_, A, c, rfl, _⟩ := hb
  obtain ⟨_, A1, c1, rfl, _⟩ := hl
  obtain ⟨_, A2, c2, rfl, _⟩ := ho
  obtain ⟨i0, hi, hz0, hz1, hz2⟩ := info_parts infoI1
  have H1 := Lib.hid h1
  have H2 := Lib.hid h2
  clear h1 h2
  go_enter Tryd.func27, Tryd.ntmps27
  go_wp2
  go_loopg [8, 9, 10] bits.length (fun g a b i wr => ∃ k : Nat, i = .int .i64 k ∧ k + g = bits.length ∧ App w.heap.size w (leftTo bits l o k) (rightTo bits l o k) a b wr)
  case atStart => exact ⟨0, rfl, by omega, Below.refl _ _, Nat.le_refl _, World.ownsRow_nil _ _ _ _, World.ownsRow_nil _ _ _ _, fun k hk => by cases hk⟩
  case round =>
    obtain ⟨k, rfl, hk, hA⟩ := hrel
    have hl1 : (leftTo bits l o k).length = k := leftTo_length _ _ _ _
    have hl2 : (rightTo bits l o k).length = k := rightTo_length _ _ _ _
    by_cases hlt : k < bits.length
    · obtain ⟨b0, o0, e0, hb0, d0⟩ := sl_at (HS.out.below hA.b) hlt
      obtain ⟨b1, o1, e1, hb1, d1⟩ := sl_at (HL.out.below hA.b) (j := k) (by rw [H1.out]; exact hlt)
      obtain ⟨b2, o2, e2, hb2, d2⟩ := sl_at (HO.out.below hA.b) (j := k) (by rw [H2.out]; exact hlt)
      subst e0 e1 e2
      have f0 := d0 0 (by omega)
      have f1 := d1 0 (by omega)
      have f2 := d2 0 (by omega)
      simp only [encI, Og.cells, List.cons_append, List.getD_cons_zero, Nat.add_zero, Nat.mul_one] at f0 f1 f2
      have hla : leftAt bits l o k = if bits.getD k default = 0 then (l.getD k default).a else (o.getD k default).a := rfl
      have hra : rightAt bits l o k = if bits.getD k default = 0 then (o.getD k default).a else (l.getD k default).a := rfl
      have hls := leftTo_succ bits l o k
      have hrs := rightTo_succ bits l o k
      rw [hla] at hls
      rw [hra] at hrs
      have q1 := fun b off (x : Value) (h : wr.cell? ⟨b, off, none⟩ = some x) (hb : b < w.heap.size) => (hA.b.cell (p := ⟨b, off, none⟩) hb).symm.trans h
      replace f1 := q1 _ _ _ f1 hb1
      replace f2 := q1 _ _ _ f2 hb2
      clear d0 d1 d2 hla hra q1
      have Q2 := Lib.hid f2
      have Q1 := Lib.hid f1
      generalize (l.getD k default).a = x at *
      generalize (o.getD k default).a = y at *
      generalize bits.getD k default = bt at *
      have HB1 := Lib.hid hb1
      have HB2 := Lib.hid hb2
      have s1 : (0 : Int) ≤ k := by omega
      have s2 : (k : Int) < bits.length := by omega
      have s3 : (k : Int) < l.length := by rw [H1.out]; exact s2
      have s4 : (k : Int) < o.length := by rw [H2.out]; exact s2
      obtain ⟨L, hL⟩ : ∃ L, leftTo bits l o k = L := ⟨_, rfl⟩
      obtain ⟨R, hR⟩ : ∃ R, rightTo bits l o k = R := ⟨_, rfl⟩
      rw [hL] at hA hls hl1
      rw [hR] at hA hrs hl2
      clear hL hR
      have HLS := Lib.hid hls
      have HRS := Lib.hid hrs
      have HA := Lib.hid hA
      have kl : ∀ W', Below w.heap.size w W' → W'.cell? ⟨b1, o1 + k * 36, none⟩ = some (.int .i64 x) ∧ W'.cell? ⟨b2, o2 + k * 36, none⟩ = some (.int .i64 y) := fun W' h => ⟨(h.cell (p := ⟨b1, o1 + k * 36, none⟩) HB1.out).trans Q1.out, (h.cell (p := ⟨b2, o2 + k * 36, none⟩) HB2.out).trans Q2.out⟩
      have KL := Lib.hid kl
      obtain ⟨g1, g2⟩ := kl wr hA.b
      clear f1 f2 hls hrs hA kl hb0 hb1 hb2
      by_cases hbt : bt = 0
      · subst hbt
        rw [if_pos rfl] at HLS HRS
        go_wp2_with (first
          | (at_builtin; refine wpList_append_lies _ rfl _ _ 22 rfl w.heap.size 3 i0 (.int .i64 0) 1 8 Tryd.underlying22 hi hz0 hz1 hz2 rfl (by decide) _ _ _ rfl (HA.out.alloc _).o8 ⟨wr.heap.size, 0, none⟩ 1 1 [.int .i64 x] rfl rfl (news_row (Row.new wr 3 [.int .i64 x])) (by simp [Value.oneCell']) (by decide) (by unfold maxLen; omega) (by omega) (HA.out.alloc _).z _ rfl ?_; intro g3 cap3 w3 hown hgr hat hlt3; have HA2 := Lib.hid ((HA.out.alloc _).left hown hgr hat); obtain ⟨g1, g2⟩ := KL.out w3 HA2.out.b; clear hown hgr hat)
          | (at_builtin; refine wpList_append_lies _ rfl _ _ 22 rfl w.heap.size 3 i0 (.int .i64 0) 1 8 Tryd.underlying22 hi hz0 hz1 hz2 rfl (by decide) _ _ _ rfl (HA2.out.alloc _).o9 ⟨w3.heap.size, 0, none⟩ 1 1 [.int .i64 y] rfl rfl (news_row (Row.new w3 3 [.int .i64 y])) (by simp [Value.oneCell']) (by decide) (by unfold maxLen; omega) (by omega) (HA2.out.alloc _).z _ rfl ?_; intro g4 cap4 w4 hown hgr hat hlt4; have HA3 := Lib.hid ((HA2.out.alloc _).right hown hgr hat); clear hown hgr hat))
        go_roundg (gk - 1)
        case measure => omega
        case rel => exact ⟨k + 1, by first | rfl | go_num, by omega, by
          have h := HA3.out
          rw [hl1, hl2] at h
          rw [HLS.out, HRS.out]
          exact h⟩
      · have s5 : (bt == 0) = false := by simpa using hbt
        rw [if_neg hbt] at HLS HRS
        clear hbt
        go_wp2_with (first
          | (at_builtin; refine wpList_append_lies _ rfl _ _ 22 rfl w.heap.size 3 i0 (.int .i64 0) 1 8 Tryd.underlying22 hi hz0 hz1 hz2 rfl (by decide) _ _ _ rfl (HA.out.alloc _).o8 ⟨wr.heap.size, 0, none⟩ 1 1 [.int .i64 y] rfl rfl (news_row (Row.new wr 3 [.int .i64 y])) (by simp [Value.oneCell']) (by decide) (by unfold maxLen; omega) (by omega) (HA.out.alloc _).z _ rfl ?_; intro g3 cap3 w3 hown hgr hat hlt3; have HA2 := Lib.hid ((HA.out.alloc _).left hown hgr hat); obtain ⟨g1, g2⟩ := KL.out w3 HA2.out.b; clear hown hgr hat)
          | (at_builtin; refine wpList_append_lies _ rfl _ _ 22 rfl w.heap.size 3 i0 (.int .i64 0) 1 8 Tryd.underlying22 hi hz0 hz1 hz2 rfl (by decide) _ _ _ rfl (HA2.out.alloc _).o9 ⟨w3.heap.size, 0, none⟩ 1 1 [.int .i64 x] rfl rfl (news_row (Row.new w3 3 [.int .i64 x])) (by simp [Value.oneCell']) (by decide) (by unfold maxLen; omega) (by omega) (HA2.out.alloc _).z _ rfl ?_; intro g4 cap4 w4 hown hgr hat hlt4; have HA3 := Lib.hid ((HA2.out.alloc _).right hown hgr hat); clear hown hgr hat))
        go_roundg (gk - 1)
        case measure => omega
        case rel => exact ⟨k + 1, by first | rfl | go_num, by omega, by
          have h := HA3.out
          rw [hl1, hl2] at h
          rw [HLS.out, HRS.out]
          exact h⟩
    · obtain rfl : k = bits.length := by omega
      have r8 : SlI wr wr.heap.size u8 (leftTo bits l o bits.length) := own_slM (n := (leftTo bits l o bits.length).length) (by rw [flat_ints]; exact hA.o8) (fun _ _ => rfl) rfl (by omega)
      have r9 : SlI wr wr.heap.size u9 (rightTo bits l o bits.length) := own_slM (n := (rightTo bits l o bits.length).length) (by rw [flat_ints]; exact hA.o9) (fun _ _ => rfl) rfl (by omega)
      have R8 := Lib.hid r8
      have R9 := Lib.hid r9
      have HA := Lib.hid hA
      clear r8 r9 hl1 hl2 hA
      go_wp2
      go_ret2
      exact ⟨_, _, rfl, HA.out.b, R8.out, R9.out⟩
end Go.Proofs.YthboebhghaabnaaDoor

set_option linter.unusedSimpArgs false
set_option linter.unusedVariables false
namespace Go.Proofs.YthboebhghaabnaaDoor
open Go.RowKit Fk Sha
/-! The reference of law 14: two openings put together. -/
set_option maxRecDepth 100000 in
set_option maxHeartbeats 2000000 in
theorem rwhole_any (bits : List Int) (l o : List Og) (v0 v1 v2 : Value) (w : World) (hb : SlI w w.heap.size v0 bits) (hl : SlG 36 Og.cells w w.heap.size v1 l) (ho : SlG 36 Og.cells w w.heap.size v2 o) :
    Calls Tryd.prog 20 #[v0, v1, v2] w fun e w' => ∃ v, e = .returned (.tuple #[v, .bool (wholeB bits l o)]) ∧ Below w.heap.size w w' ∧ SlI w' w'.heap.size v (wholeC bits l o) := by
  have hWB : wholeB bits l o = ((decide (bits.length ≤ 64) && (decide (l.length = bits.length) && (decide (o.length = bits.length) && bits.all bitB))) && (permB (leftTo bits l o bits.length) && permB (rightTo bits l o bits.length))) := rfl
  have hWC : wholeC bits l o = if wholeB bits l o then goTo (leftTo bits l o bits.length) (rightTo bits l o bits.length) else [] := rfl
  have HS := Lib.hid hb
  have HL := Lib.hid hl
  have HO := Lib.hid ho
  have hp := fun h1 h2 h3 => rplaces_any bits l o v0 v1 v2 w hb hl ho h1 h2 h3
  obtain ⟨_, A, c, rfl, _⟩ := hb
  obtain ⟨_, A1, c1, rfl, _⟩ := hl
  obtain ⟨_, A2, c2, rfl, _⟩ := ho
  have QB := Lib.hid (rbits_any bits (.slice A bits.length c) w HS.out)
  have nope : wholeB bits l o = false → ∀ w' : World, Below w.heap.size w w' → ∃ v, Ending.returned (.tuple #[.slice none 0 0, .bool false]) = .returned (.tuple #[v, .bool (wholeB bits l o)]) ∧ Below w.heap.size w w' ∧ SlI w' w'.heap.size v (wholeC bits l o) := fun h _ hB => by
    rw [h] at hWC
    rw [hWC, h]
    exact ⟨_, rfl, hB, SlG.nil_ _ _⟩
  have NO := Lib.hid nope
  by_cases f1 : bits.length ≤ 64
  rotate_left 1
  · have hW : wholeB bits l o = false := by rw [hWB]; simp [f1]
    have q := Lib.hid (NO.out hW)
    clear hW hWB hWC nope hp NO
    go_enter Tryd.func20, Tryd.ntmps20
    go_wp2
    go_ret2
    exact q.out _ (Below.refl _ _)
  by_cases f2 : l.length = bits.length
  rotate_left 1
  · have hW : wholeB bits l o = false := by rw [hWB]; simp [f2]
    have q := Lib.hid (NO.out hW)
    have s1 : ((l.length : Int) != bits.length) = true := by simp; omega
    clear hW hWB hWC nope hp NO f2
    go_enter Tryd.func20, Tryd.ntmps20
    go_wp2
    go_ret2
    exact q.out _ (Below.refl _ _)
  by_cases f3 : o.length = bits.length
  rotate_left 1
  · have hW : wholeB bits l o = false := by rw [hWB]; simp [f3]
    have q := Lib.hid (NO.out hW)
    have s1 : ((o.length : Int) != bits.length) = true := by simp; omega
    clear hW hWB hWC nope hp NO f3
    go_enter Tryd.func20, Tryd.ntmps20
    go_wp2
    go_ret2
    exact q.out _ (Below.refl _ _)
  rw [f2, f3]
  rw [f2, f3] at hp
  cases f4 : bits.all bitB with
  | false =>
    have hW : wholeB bits l o = false := by rw [hWB, f4]; simp
    have q := Lib.hid (NO.out hW)
    have QB' := QB.out
    rw [f4] at QB'
    have Q2 := Lib.hid QB'
    clear hW hWB hWC nope hp NO f4 QB QB' f2 f3
    go_enter Tryd.func20, Tryd.ntmps20
    go_wp2_with (go_at_call 46; (with_reducible refine Q2.out.mono ?_); rintro e w1 ⟨rfl, hb⟩)
    go_ret2
    exact q.out _ hb
  | true =>
    have QB' := QB.out
    rw [f4] at QB'
    have Q2 := Lib.hid QB'
    have QP := Lib.hid (fun w' (hb : Below w.heap.size w w') => rplaces_any bits l o (.slice A bits.length c) (.slice A1 bits.length c1) (.slice A2 bits.length c2) w' ((HS.out.below hb).mono hb.size) (by have := HL.out; rw [f2] at this; exact (this.below hb).mono hb.size) (by have := HO.out; rw [f3] at this; exact (this.below hb).mono hb.size) f2 f3 (by omega))
    have hW : wholeB bits l o = (permB (leftTo bits l o bits.length) && permB (rightTo bits l o bits.length)) := by rw [hWB, f4]; simp [f1, f2, f3]
    clear hWB hp QB QB' f4 f2 f3 HL HO
    have HLL := leftTo_length bits l o bits.length
    have HRL := rightTo_length bits l o bits.length
    obtain ⟨L, hL⟩ : ∃ L, leftTo bits l o bits.length = L := ⟨_, rfl⟩
    obtain ⟨R, hR⟩ : ∃ R, rightTo bits l o bits.length = R := ⟨_, rfl⟩
    rw [hL, hR] at hW hWC QP
    rw [hL] at HLL
    rw [hR] at HRL
    have HL8 := Lib.hid HLL
    have HL9 := Lib.hid HRL
    have HWC := Lib.hid hWC
    clear hL hR HLL HRL hWC nope
    cases g1 : permB L with
    | false =>
      rw [g1] at hW
      have q := Lib.hid (NO.out hW)
      have P1 := Lib.hid (fun v w h => rperm_any L v w h)
      rw [g1] at P1
      clear hW g1 NO
      go_enter Tryd.func20, Tryd.ntmps20
      go_wp2_with (first
        | (go_at_call 46; (with_reducible refine Q2.out.mono ?_); rintro e w1 ⟨rfl, hb⟩)
        | (go_at_call 27; (with_reducible refine (QP.out _ hb).mono ?_); rintro e w2 ⟨a, b, rfl, hb2, ha, hbb⟩; replace hb := hb.trans (hb2.mono hb.size))
        | (go_at_call 25; (with_reducible refine (P1.out _ _ ha).mono ?_); rintro e w3 ⟨rfl, hb3⟩; replace hb := hb.trans (hb3.mono hb.size)))
      go_ret2
      exact q.out _ hb
    | true =>
      rw [g1, Bool.true_and] at hW
      have P1 := Lib.hid (fun v w h => rperm_any L v w h)
      rw [g1] at P1
      cases g2 : permB R with
      | false =>
        rw [g2] at hW
        have q := Lib.hid (NO.out hW)
        have P2 := Lib.hid (fun v w h => rperm_any R v w h)
        rw [g2] at P2
        clear hW g1 g2 NO
        go_enter Tryd.func20, Tryd.ntmps20
        go_wp2_with (first
          | (go_at_call 46; (with_reducible refine Q2.out.mono ?_); rintro e w1 ⟨rfl, hb⟩)
          | (go_at_call 27; (with_reducible refine (QP.out _ hb).mono ?_); rintro e w2 ⟨a, b, rfl, hb2, ha, hbb⟩; replace hb := hb.trans (hb2.mono hb.size))
          | (go_at_call 25; (with_reducible refine (P1.out _ _ ha).mono ?_); rintro e w3 ⟨rfl, hb3⟩; replace hb := hb.trans (hb3.mono hb.size))
          | (go_at_call 25; (with_reducible refine (P2.out _ _ ((hbb.below hb3).mono hb3.size)).mono ?_); rintro e w4 ⟨rfl, hb4⟩; replace hb := hb.trans (hb4.mono hb.size)))
        go_ret2
        exact q.out _ hb
      | true =>
        rw [g2] at hW
        have P2 := Lib.hid (fun v w h => rperm_any R v w h)
        rw [g2] at P2
        have HB8 := Lib.hid g1
        have HWB := Lib.hid hW
        clear hW g1 g2 NO
        obtain ⟨Z, hZ⟩ : ∃ Z, (List.replicate bits.length (Value.int .i64 0)).toArray = Z := ⟨_, rfl⟩
        have hmk : ∀ w : World, (Instr.makeSlice 22 (.int .i64 (bits.length : Int)) (.int .i64 (bits.length : Int))).run Tryd.prog w = .ok (.slice (some ⟨w.heap.size, 0, none⟩) bits.length bits.length) (w.alloc (.cells Z 3)) := fun w => by rw [← hZ]; exact make_ints _ (by omega) w
        go_enter Tryd.func20, Tryd.ntmps20
        go_upto_region 7 with (first
          | (go_at_call 46; (with_reducible refine Q2.out.mono ?_); rintro e w1 ⟨rfl, hb⟩)
          | (go_at_call 27; (with_reducible refine (QP.out _ hb).mono ?_); rintro e w2 ⟨a, b, rfl, hb2, ha, hbb⟩; replace hb := hb.trans (hb2.mono hb.size))
          | (go_at_call 25; (with_reducible refine (P1.out _ _ ha).mono ?_); rintro e w3 ⟨rfl, hb3⟩; replace hb := hb.trans (hb3.mono hb.size); have ha3 := (ha.below hb3).mono hb3.size; have hbb3 := (hbb.below hb3).mono hb3.size)
          | (go_at_call 25; (with_reducible refine (P2.out _ _ hbb3).mono ?_); rintro e w4 ⟨rfl, hb4⟩; replace hb := hb.trans (hb4.mono hb.size); have ha4 := (ha3.below hb4).mono hb4.size; have hbb4 := (hbb3.below hb4).mono hb4.size))
        obtain ⟨_, AL, cL, ea, _⟩ := id ha4
        obtain ⟨_, AR, cR, eb, _⟩ := id hbb4
        rw [HL8.out] at ea
        rw [HL9.out] at eb
        subst ea eb
        have hg : Row (w4.alloc (.cells Z 3)) w4.heap.size 3 ((layTo L.length 0 L (fun j => R.getD j default) 0).map (Value.int .i64)) := by
          rw [layTo_zero, List.map_replicate, HL8.out, ← hZ]
          exact Row.new w4 _ _
        have hn := below_alloc' w4 (.cells Z 3)
        have hb5 := hb.trans (hn.mono hb.size)
        have Z8 := Lib.hid ((ha4.below hn))
        have Z9 := Lib.hid ((hbb4.below hn))
        have hgz := hb.size
        clear hn hmk hZ hb2 hb3 hb4 ha hbb ha3 hbb3 ha4 hbb4 hb
        generalize w4.alloc (.cells Z 3) = W4 at *
        generalize w4.heap.size = gp at *
        go_wp2_with fail
        go_loopg [11] bits.length (fun gh iv wr => ∃ k : Nat, iv = .int .i64 k ∧ k + gh = bits.length ∧ Below gp W4 wr ∧ Row wr gp 3 ((layTo L.length 0 L (fun j => R.getD j default) k).map (Value.int .i64)))
        case atStart => exact ⟨0, rfl, by omega, Below.refl _ _, hg⟩
        case round =>
          clear hg
          obtain ⟨k, rfl, hkg, hBr, hR⟩ := hrel
          by_cases hk : k < bits.length
          · obtain ⟨b0, o0, ha0, hb0, e0⟩ := sl_at (Z8.out.below hBr) (j := k) (by rw [HL8.out]; exact hk)
            obtain ⟨b1, o1, ha1, hb1, e1⟩ := sl_at (Z9.out.below hBr) (j := k) (by rw [HL9.out]; exact hk)
            subst ha0 ha1
            have d0 := e0 0 (by omega)
            have d1 := e1 0 (by omega)
            have hat := permB_at HB8.out (k := k) (by rw [HL8.out]; exact hk)
            rw [HL8.out] at hat
            have hsu := layTo_succ L.length 0 L (fun j => R.getD j default) k
            have hln := layTo_length L.length (0 : Int) L (fun j => R.getD j default) k
            obtain ⟨p, hp⟩ : ∃ p : Nat, L.getD k default = p := ⟨(L.getD k default).toNat, by omega⟩
            obtain ⟨q, hq⟩ : ∃ q, R.getD k default = q := ⟨_, rfl⟩
            rw [hp] at hat hsu
            simp only [hq, Int.toNat_natCast] at hsu
            simp only [encI, hp, hq, List.getD_cons_zero, Nat.add_zero, Nat.mul_one] at d0 d1
            have s1 : (0 : Int) ≤ k := by omega
            have s2 : (k : Int) < bits.length := by omega
            obtain ⟨s4, s5⟩ := hat
            have s6 : p < bits.length := by omega
            have hold : ∃ u, wr.cell? ⟨gp, p, none⟩ = some u := ⟨_, by rw [hR.cell, List.getElem?_eq_getElem (by rw [List.length_map, hln, HL8.out]; exact s6)]⟩
            obtain ⟨u, hold⟩ := hold
            have hfz := hR.frozen p
            have fin : Below gp W4 (wr.drew.setCell ⟨gp, p, none⟩ (.int .i64 q)) ∧ Row (wr.drew.setCell ⟨gp, p, none⟩ (.int .i64 q)) gp 3 ((layTo L.length 0 L (fun j => R.getD j default) (k + 1)).map (Value.int .i64)) := by
              refine ⟨hBr.drew.setCell (p := ⟨gp, p, none⟩) (Nat.le_refl _) _, ?_⟩
              have hR' : Row wr.drew gp 3 _ := hR
              have := hR'.store p (.int .i64 q)
              rw [hsu, List.map_set]
              exact this
            have FIN := Lib.hid fin
            clear fin hsu hln e0 e1 hp hq hR
            go_wp2_with fail
            go_region
            go_wp2_with fail
            go_roundg (gk - 1)
            case measure => omega
            case rel => exact ⟨k + 1, by first | rfl | go_num, by omega, FIN.out⟩
          · obtain rfl : k = bits.length := by omega
            have hres : SlI wr wr.heap.size (.slice (some ⟨gp, 0, none⟩) bits.length bits.length) (goTo L R) := by
              have := row_ints (c := bits.length) hR (by rw [layTo_length, HL8.out]; omega) hR.lt
              rw [layTo_length, HL8.out] at this
              unfold goTo
              rw [HL8.out]
              exact this
            have HRES := Lib.hid hres
            have hBw : Below w.heap.size w wr := hb5.trans (hBr.mono hgz)
            clear hres hR
            go_wp2_with fail
            go_ret2
            refine ⟨.slice (some ⟨gp, 0, none⟩) bits.length bits.length, ?_, hBw, ?_⟩
            · rw [HWB.out]; rfl
            · rw [HWC.out, HWB.out, if_pos rfl]; exact HRES.out
end Go.Proofs.YthboebhghaabnaaDoor

namespace Go.Proofs.YthboebhghaabnaaDoor
open Go.RowKit Go.WideShapes Go.ChangeShapes Go.Deep Fk
/-! Arguments that are slices, opened to lists; and closed again. -/
section
variable {H : Type} {enc : TypeId × Value → H} {P : Program} {w : World} {base : Nat} {spare : Nat → Bool} {held : Bool}
theorem cell_addr {w : World} {a : Addr} {v : Value} (h : w.cell? a = some v) : a.spot = none ∧ a.block < w.heap.size := by
  unfold World.cell? at h
  split at h
  · rename_i c t r hk
    refine ⟨?_, (Array.getElem?_eq_some_iff.1 hk).1⟩
    cases hs : a.spot with
    | none => rfl
    | some x => rw [hs] at h; simp at h
  · cases h
theorem addr_add (b off k : Nat) : (Addr.add ⟨b, off, none⟩ k) = ⟨b, off + k, none⟩ := by
  unfold Addr.add; split
  · subst k; rfl
  · rfl
theorem sl_of_cells {α : Type} [Inhabited α] {m : Nat} {en : α → List Value} {Q : α → Prop} {w : World} {a : Addr} {len cap : Nat} (hm : 0 < m) (hl : len ≤ 9223372036854775807)
    (h : ∀ i, i < len → ∃ x : α, Q x ∧ ∀ j, j < m → w.cell? (a.add (i * m + j)) = some ((en x).getD j undef)) :
    ∃ l : List α, SlG m en w w.heap.size (.slice (some a) len cap) l ∧ ∀ i, i < l.length → Q (l.getD i default) := by
  have hc : ∃ f : Nat → α, ∀ i, i < len → Q (f i) ∧ ∀ j, j < m → w.cell? (a.add (i * m + j)) = some ((en (f i)).getD j undef) := by
    refine ⟨fun i => if hi : i < len then Classical.choose (h i hi) else default, fun i hi => ?_⟩
    simp only [dif_pos hi]
    exact Classical.choose_spec (h i hi)
  obtain ⟨f, hf⟩ := hc
  have hlen : ((List.range len).map f).length = len := by simp
  have hget : ∀ i, i < len → ((List.range len).map f).getD i default = f i := fun i hi => by
    rw [List.getD_eq_getElem?_getD, List.getElem?_map, List.getElem?_range hi]; rfl
  refine ⟨(List.range len).map f, ⟨by omega, some a, cap, by rw [hlen], fun hp => ?_⟩, fun i hi => by rw [hget i (by omega)]; exact (hf i (by omega)).1⟩
  have h0 := (hf 0 (by omega)).2 0 hm
  rw [show 0 * m + 0 = 0 by omega] at h0
  obtain ⟨b, off, sp⟩ := a
  have h0' : w.cell? ⟨b, off, sp⟩ = some ((en (f 0)).getD 0 undef) := h0
  obtain ⟨hs, hb⟩ := cell_addr h0'
  simp only at hs hb
  subst hs
  refine ⟨b, off, rfl, hb, fun i hi j hj => ?_⟩
  rw [hget i (by omega)]
  have := (hf i (by omega)).2 j hj
  rw [addr_add] at this
  rwa [Nat.add_assoc]
theorem trod_keep {t : TypeId} (hl : laidOutB P = true) (hr : P.readableRec t = true) (hrow : t < P.types.size) {W W' : World} {v : Value} {d : DataW H} {ps : List MemPlace} {sp : Nat → Bool}
    (h : DataW.Trod enc P W 0 (fun _ => true) true t v d ps) (hb : Below W.heap.size W W') (hlt : ∀ x ∈ ps, x.block < W.heap.size) (hsp : ∀ x ∈ ps, sp x.block = true) : DataW.Trod enc P W' 0 sp true t v d ps :=
  WideElems.Trod_stays hl hr hrow h (fun x hx => hb.same (hlt x hx)) hsp
theorem open_slice_fields {t e : TypeId} {fs : Array Field} {fuel : Nat} {cs : List Value} {x : DataW H × List MemPlace} (ht : P.underlying t = some (.slice e)) (he : P.underlying e = some (.struct fs))
    (hone : oneCellFields P fs = true) (hC : P.cellsOf e = fs.size) (h : DataW.trod enc P w base spare held fuel t cs = some x) :
    (cs = [.slice none 0 0]) ∨
    ∃ (a : Addr) (len cap : Nat), cs = [.slice (some a) len cap] ∧ len ≤ cap ∧ cap ≤ maxLen ∧
      ∀ i, i < len → ∀ (j : Nat) (f : Field), fs[j]? = some f → ∃ (v : Value) (y : DataW H × List MemPlace) (n : Nat), w.cell? (a.add (i * fs.size + j)) = some v ∧ DataW.trod enc P w base spare held n f.type [v] = some y := by
  rcases open_slice ht h with h0 | ⟨a, len, cap, m, n, D, Pl, hcs, hb, hl, hm, hmm, hx, hi⟩
  · exact .inl h0.1
  · refine .inr ⟨a, len, cap, hcs, hl, hm, fun i him j f hj => ?_⟩
    obtain ⟨cs', hc, ht'⟩ := hi i (by rw [hmm]; split <;> omega)
    rw [hC] at hc
    obtain ⟨ys, n', hn', hy, hlen, hyl, hf⟩ := DataW.trod_struct he ht'
    obtain ⟨_, hcl, hat⟩ := World.cells?_some hc
    obtain ⟨ho, hk⟩ := hone_of hone j f hj
    have hjl : j < fs.size := (Array.getElem?_eq_some_iff.1 hj).1
    have hcell := hat j hjl
    have hv : cs'[j]? = some (cs'[j]'(by omega)) := List.getElem?_eq_getElem (by omega)
    have h1 := hf j f hj
    rw [ho, hk] at h1
    have hone' : (cs'.drop j).take 1 = [cs'[j]'(by omega)] := by
      rw [List.drop_eq_getElem_cons (by omega)]
      rfl
    rw [hone'] at h1
    have hys : ys[j]? = some (ys[j]'(by omega)) := List.getElem?_eq_getElem (by omega)
    refine ⟨_, _, _, ?_, h1.trans hys⟩
    rw [← Go.Deep.add_add, hcell, hv]
end
theorem cells_slice (a : Option Addr) (n c : Nat) : (Value.slice a n c).cells.toList = [.slice a n c] := by simp [Value.cells]
section
variable {H : Type} {enc : TypeId × Value → H} {w : World} {base : Nat} {r : Reach}
def wfI (n : Int) : Prop := (Lit.int .i64 n).wf = true
set_option maxRecDepth 100000 in
theorem open_sl_int {v : Value} {d : DataW H} {p : List MemPlace} (hv : Value.okWide Tryd.prog w r base 22 v) (h : DataW.Trod enc Tryd.prog w 0 (fun _ => true) true 22 v d p) :
    ∃ l : List Int, SlI w w.heap.size v l ∧ ∀ i, i < l.length → wfI (l.getD i default) := by
  obtain ⟨a, len, cap, rfl⟩ := okWide_slice Tryd.underlying22 hv
  obtain ⟨fuel, hf⟩ := h
  rw [cells_slice] at hf
  rcases open_ints Tryd.underlying22 Tryd.underlying3 (by kernel_rfl) hf with ⟨hcs, _⟩ | ⟨a', len', cap', zs, hcs, _, hl, hm, hz, _, hcell, hwf⟩
  · obtain ⟨rfl, rfl, rfl⟩ : a = none ∧ len = 0 ∧ cap = 0 := by simpa using hcs
    exact ⟨[], SlG.nil_ _ _, fun i hi => absurd hi (by simp)⟩
  · obtain ⟨rfl, rfl, rfl⟩ : a = some a' ∧ len = len' ∧ cap = cap' := by simpa using hcs
    simp only [if_true] at hz
    refine sl_of_cells (m := 1) (en := encI) (Q := wfI) (by omega) (by unfold maxLen at hm; omega) (fun i hi => ⟨zs.getD i 0, ?_, fun j hj => ?_⟩)
    · refine hwf _ ?_
      rw [List.getD_eq_getElem?_getD, List.getElem?_eq_getElem (by omega)]
      exact List.getElem_mem _
    · obtain rfl : j = 0 := by omega
      rw [Nat.mul_one, Nat.add_zero]
      exact hcell i (by omega)
end
end Go.Proofs.YthboebhghaabnaaDoor

namespace Go.Proofs.YthboebhghaabnaaDoor
open Go.RowKit Go.WideShapes Go.ChangeShapes Go.ChangeMaps Go.Deep Fk Sha
/-! Bytes and strings as arguments. -/
section
variable {H : Type} {enc : TypeId × Value → H} {w : World} {base : Nat} {r : Reach}
set_option maxRecDepth 100000 in
theorem open_str {v : Value} {d : DataW H} {p : List MemPlace} (hv : Value.okWide Tryd.prog w r base 9 v) (h : DataW.Trod enc Tryd.prog w 0 (fun _ => true) true 9 v d p) :
    ∃ s : ByteArray, v = .string s ∧ s.size ≤ maxLen := by
  obtain ⟨s, rfl, _, _, h2⟩ := open_string Tryd.underlying9 hv h
  exact ⟨s, rfl, h2⟩
set_option maxRecDepth 100000 in
theorem open_sl_b {v : Value} {d : DataW H} {p : List MemPlace} (hv : Value.okWide Tryd.prog w r base 62 v) (h : DataW.Trod enc Tryd.prog w 0 (fun _ => true) true 62 v d p) :
    ∃ l : List B, SlB w w.heap.size v l ∧ capB v := by
  obtain ⟨a, len, cap, rfl⟩ := okWide_slice Tryd.underlying62 hv
  obtain ⟨fuel, hf⟩ := h
  rw [cells_slice] at hf
  rcases open_ints Tryd.underlying62 Tryd.underlying5 (by kernel_rfl) hf with ⟨hcs, _⟩ | ⟨a', len', cap', zs, hcs, _, hl, hm, hz, _, hcell, hwf⟩
  · obtain ⟨rfl, rfl, rfl⟩ : a = none ∧ len = 0 ∧ cap = 0 := by simpa using hcs
    exact ⟨[], SlG.nil_ _ _, none, 0, 0, rfl, Nat.le_refl _, by omega, fun _ => rfl⟩
  · obtain ⟨rfl, rfl, rfl⟩ : a = some a' ∧ len = len' ∧ cap = cap' := by simpa using hcs
    simp only [if_true] at hz
    unfold maxLen at hm
    obtain ⟨l, h1, _⟩ := sl_of_cells (m := 1) (en := encB) (a := a') (len := len) (cap := cap) (w := w) (Q := fun _ => True) (by omega) (by omega) (fun i hi => ⟨BitVec.ofNat 8 (zs.getD i 0).toNat, trivial, fun j hj => by
      obtain rfl : j = 0 := by omega
      rw [Nat.mul_one, Nat.add_zero, hcell i (by omega)]
      have hw := hwf (zs.getD i 0) (by
        rw [List.getD_eq_getElem?_getD, List.getElem?_eq_getElem (by omega)]
        exact List.getElem_mem _)
      show some _ = some (bv _)
      unfold bv bn
      have hb : 0 ≤ zs.getD i 0 ∧ zs.getD i 0 ≤ 255 := bounds_u8 hw
      rw [BitVec.toNat_ofNat, Nat.mod_eq_of_lt (by omega), Int.toNat_of_nonneg hb.1]⟩)
    exact ⟨l, h1, some a', len, cap, rfl, hl, by omega, fun h => by cases h⟩
end
end Go.Proofs.YthboebhghaabnaaDoor

namespace Go.Proofs.YthboebhghaabnaaDoor
open Go.RowKit Go.WideShapes Go.ChangeShapes Fk
section
variable {H : Type} {enc : TypeId × Value → H} {P : Program} {w : World} {base base' : Nat} {r : Reach} {sp : Nat → Bool} {held : Bool}
theorem okWide_array {t e : TypeId} {n : Nat} {v : Value} (ht : P.underlying t = some (.array n e)) (h : Value.okWide P w r base t v) : ∃ cs, v = .agg cs ∧ cs.size = P.cellsOf t := by
  simp only [Value.okWide, ht] at h
  obtain ⟨cs, h1, h2, _⟩ := h
  exact ⟨cs, h1, h2⟩
theorem three_of {cs : Array Value} (h : cs.size = 3) : ∃ a b c, cs = #[a, b, c] := by
  obtain ⟨l⟩ := cs
  match l, h with
  | [a, b, c], _ => exact ⟨a, b, c, rfl⟩
theorem six_of {cs : Array Value} (h : cs.size = 6) : ∃ a b c d e f, cs = #[a, b, c, d, e, f] := by
  obtain ⟨l⟩ := cs
  match l, h with
  | [a, b, c, d, e, f], _ => exact ⟨a, b, c, d, e, f, rfl⟩
theorem some_at {α : Type} {l : List α} {n i : Nat} (h : l.length = n) (hi : i < n) : ∃ x, l[i]? = some x := ⟨l[i]'(by omega), List.getElem?_eq_getElem (by omega)⟩
/-- an array of three integers -/
theorem open_tri {t e : TypeId} {k : IntKind} {v : Value} {d : DataW H} {p : List MemPlace} (ht : P.underlying t = some (.array 3 e)) (he : P.underlying e = some (.int k)) (hc : P.cellsOf t = 3) (hce : P.cellsOf e = 1)
    (hv : Value.okWide P w r base t v) (h : DataW.Trod enc P w base' sp held t v d p) :
    ∃ a b c : Int, v = .agg #[.int k a, .int k b, .int k c] ∧ (Lit.int k a).wf = true ∧ (Lit.int k b).wf = true ∧ (Lit.int k c).wf = true := by
  obtain ⟨cs, rfl, hs⟩ := okWide_array ht hv
  obtain ⟨x0, x1, x2, rfl⟩ := three_of (hs.trans hc)
  obtain ⟨fuel, hf⟩ := h
  obtain ⟨xs, m, _, _, _, hl, hi⟩ := DataW.trod_array ht hf
  simp only [hce, Nat.mul_one] at hi
  obtain ⟨y0, g0⟩ := some_at hl (show 0 < 3 by omega)
  obtain ⟨y1, g1⟩ := some_at hl (show 1 < 3 by omega)
  obtain ⟨y2, g2⟩ := some_at hl (show 2 < 3 by omega)
  obtain ⟨a, e0, _, w0⟩ := DataW.trod_int he ((hi 0 (by omega)).trans g0)
  obtain ⟨b, e1, _, w1⟩ := DataW.trod_int he ((hi 1 (by omega)).trans g1)
  obtain ⟨c, e2, _, w2⟩ := DataW.trod_int he ((hi 2 (by omega)).trans g2)
  simp [Value.cells] at e0 e1 e2
  subst e0 e1 e2
  exact ⟨a, b, c, rfl, w0, w1, w2⟩
/-- an array of three structs of two integers -/
theorem open_six {t e i : TypeId} {fs : Array Field} {v : Value} {d : DataW H} {p : List MemPlace} (ht : P.underlying t = some (.array 3 e)) (he : P.underlying e = some (.struct fs)) (hc : P.cellsOf t = 6) (hce : P.cellsOf e = 2)
    (hi : P.underlying i = some (.int .i64)) (hci : P.cellsOf i = 1) {f0 f1 : Field} (hf0 : fs[0]? = some f0) (hf1 : fs[1]? = some f1) (h00 : f0.offset = 0) (h01 : f1.offset = 1) (ht0 : f0.type = i) (ht1 : f1.type = i)
    (hv : Value.okWide P w r base t v) (h : DataW.Trod enc P w base' sp held t v d p) :
    ∃ s : Se, v = s.val := by
  obtain ⟨cs, rfl, hs⟩ := okWide_array ht hv
  obtain ⟨x0, x1, x2, x3, x4, x5, rfl⟩ := six_of (hs.trans hc)
  obtain ⟨fuel, hf⟩ := h
  obtain ⟨xs, m, _, _, _, hl, hel⟩ := DataW.trod_array ht hf
  simp only [hce] at hel
  have key : ∀ k, k < 3 → ∃ a b : Int, (([x0, x1, x2, x3, x4, x5] : List Value).drop (k * 2)).take 2 = [.int .i64 a, .int .i64 b] := by
    intro k hk
    obtain ⟨y, g⟩ := some_at hl hk
    have h1 := (hel k hk).trans g
    obtain ⟨ys, n, _, _, hlen, hyl, hfs⟩ := DataW.trod_struct he h1
    have hfz : 1 < fs.size := (Array.getElem?_eq_some_iff.1 hf1).1
    obtain ⟨z0, g0⟩ := some_at hyl (show 0 < fs.size by omega)
    obtain ⟨z1, g1⟩ := some_at hyl hfz
    have a0 := (hfs 0 f0 hf0).trans g0
    have a1 := (hfs 1 f1 hf1).trans g1
    rw [h00, ht0, hci] at a0
    rw [h01, ht1, hci] at a1
    obtain ⟨a, e0, _, _⟩ := DataW.trod_int hi a0
    obtain ⟨b, e1, _, _⟩ := DataW.trod_int hi a1
    refine ⟨a, b, ?_⟩
    simp only [Value.cells] at e0 e1
    rcases (show k = 0 ∨ k = 1 ∨ k = 2 by omega) with rfl | rfl | rfl <;> (simp at e0 e1 ⊢; exact ⟨e0, e1⟩)
  obtain ⟨a0, b0, k0⟩ := key 0 (by omega)
  obtain ⟨a1, b1, k1⟩ := key 1 (by omega)
  obtain ⟨a2, b2, k2⟩ := key 2 (by omega)
  simp at k0 k1 k2
  obtain ⟨rfl, rfl⟩ := k0
  obtain ⟨rfl, rfl⟩ := k1
  obtain ⟨rfl, rfl⟩ := k2
  exact ⟨⟨⟨a0, b0⟩, ⟨a1, b1⟩, ⟨a2, b2⟩⟩, rfl⟩
end
section
variable {H : Type} {enc : TypeId × Value → H} {w : World} {base : Nat} {r : Reach}
def wfT (t : Tr) : Prop := ((Lit.int .i64 t.p).wf = true ∧ (Lit.int .i64 t.q).wf = true ∧ (Lit.int .i64 t.r).wf = true)
set_option maxRecDepth 100000 in
theorem open_words {v : Value} {d : DataW H} {p : List MemPlace} (hv : Value.okWide Tryd.prog w r base 79 v) (h : DataW.Trod enc Tryd.prog w 0 (fun _ => true) true 79 v d p) : ∃ t : Tr, v = t.val ∧ wfT t := by
  obtain ⟨a, b, c, rfl, h1, h2, h3⟩ := open_tri Tryd.underlying79 Tryd.underlying3 (by kernel_rfl) (by kernel_rfl) hv h
  exact ⟨⟨a, b, c⟩, rfl, h1, h2, h3⟩
set_option maxRecDepth 100000 in
theorem open_three {v : Value} {d : DataW H} {p : List MemPlace} (hv : Value.okWide Tryd.prog w r base 56 v) (h : DataW.Trod enc Tryd.prog w 0 (fun _ => true) true 56 v d p) : ∃ t : Tr, v = t.val ∧ wfT t := by
  obtain ⟨a, b, c, rfl, h1, h2, h3⟩ := open_tri Tryd.underlying56 Tryd.underlying3 (by kernel_rfl) (by kernel_rfl) hv h
  exact ⟨⟨a, b, c⟩, rfl, h1, h2, h3⟩
set_option maxRecDepth 100000 in
theorem open_sealed {v : Value} {d : DataW H} {p : List MemPlace} (hv : Value.okWide Tryd.prog w r base 68 v) (h : DataW.Trod enc Tryd.prog w 0 (fun _ => true) true 68 v d p) : ∃ s : Se, v = s.val ∧ True := by
  obtain ⟨s, hs⟩ := open_six Tryd.underlying68 Tryd.underlying66 (by kernel_rfl) (by kernel_rfl) Tryd.underlying3 (by kernel_rfl) rfl rfl rfl rfl rfl rfl hv h
  exact ⟨s, hs, trivial⟩
end
end Go.Proofs.YthboebhghaabnaaDoor

namespace Go.Proofs.YthboebhghaabnaaDoor
open Go.RowKit Go.WideShapes Go.ChangeShapes Go.Deep Fk
/-! Six cells that are read as three structs of two integers. -/
section
variable {H : Type} {enc : TypeId × Value → H} {P : Program} {w : World} {base base' : Nat} {r : Reach} {sp : Nat → Bool} {held : Bool}
theorem six' {k : Nat} (h : k < 6) : k = 0 ∨ k = 1 ∨ k = 2 ∨ k = 3 ∨ k = 4 ∨ k = 5 := by omega
theorem two_of {cs : List Value} (h : cs.length = 2) : ∃ a b, cs = [a, b] := by
  match cs, h with
  | [a, b], _ => exact ⟨a, b, rfl⟩
/-- six cells that are read as three structs of two integers -/
theorem six_ints {t e i : TypeId} {fs : Array Field} {cs : List Value} {fuel : Nat} {x : DataW H × List MemPlace} (hs : cs.length = 6) (ht : P.underlying t = some (.array 3 e)) (he : P.underlying e = some (.struct fs)) (hce : P.cellsOf e = 2)
    (hi : P.underlying i = some (.int .i64)) (hci : P.cellsOf i = 1) {f0 f1 : Field} (hf0 : fs[0]? = some f0) (hf1 : fs[1]? = some f1) (h00 : f0.offset = 0) (h01 : f1.offset = 1) (ht0 : f0.type = i) (ht1 : f1.type = i)
    (hf : DataW.trod enc P w base' sp held fuel t cs = some x) :
    ∃ a0 b0 a1 b1 a2 b2 : Int, cs = [.int .i64 a0, .int .i64 b0, .int .i64 a1, .int .i64 b1, .int .i64 a2, .int .i64 b2] := by
  obtain ⟨x0, x1, x2, x3, x4, x5, hx⟩ := six_of (cs := cs.toArray) (by simpa using hs)
  obtain rfl : cs = [x0, x1, x2, x3, x4, x5] := by
    have := congrArg Array.toList hx
    simpa using this
  clear hx
  obtain ⟨xs, m, _, _, _, hl, hel⟩ := DataW.trod_array ht hf
  simp only [hce] at hel
  have key : ∀ k, k < 3 → ∃ a b : Int, (([x0, x1, x2, x3, x4, x5] : List Value).drop (k * 2)).take 2 = [.int .i64 a, .int .i64 b] := by
    intro k hk
    obtain ⟨y, g⟩ := some_at hl hk
    have h1 := (hel k hk).trans g
    obtain ⟨ys, n, _, _, hlen, hyl, hfs⟩ := DataW.trod_struct he h1
    have hfz : 1 < fs.size := (Array.getElem?_eq_some_iff.1 hf1).1
    obtain ⟨z0, g0⟩ := some_at hyl (show 0 < fs.size by omega)
    obtain ⟨z1, g1⟩ := some_at hyl hfz
    have a0 := (hfs 0 f0 hf0).trans g0
    have a1 := (hfs 1 f1 hf1).trans g1
    rw [h00, ht0, hci] at a0
    rw [h01, ht1, hci] at a1
    obtain ⟨a, e0, _, _⟩ := DataW.trod_int hi a0
    obtain ⟨b, e1, _, _⟩ := DataW.trod_int hi a1
    refine ⟨a, b, ?_⟩
    rcases (show k = 0 ∨ k = 1 ∨ k = 2 by omega) with rfl | rfl | rfl <;> (simp at e0 e1 ⊢; exact ⟨e0, e1⟩)
  obtain ⟨a0, b0, k0⟩ := key 0 (by omega)
  obtain ⟨a1, b1, k1⟩ := key 1 (by omega)
  obtain ⟨a2, b2, k2⟩ := key 2 (by omega)
  simp at k0 k1 k2
  obtain ⟨rfl, rfl⟩ := k0
  obtain ⟨rfl, rfl⟩ := k1
  obtain ⟨rfl, rfl⟩ := k2
  exact ⟨a0, b0, a1, b1, a2, b2, rfl⟩
theorem open_slice_six {s t e i : TypeId} {fs : Array Field} {cs : List Value} {fuel : Nat} {x : DataW H × List MemPlace} (hsl : P.underlying s = some (.slice t)) (ht : P.underlying t = some (.array 3 e)) (he : P.underlying e = some (.struct fs)) (hct : P.cellsOf t = 6) (hce : P.cellsOf e = 2)
    (hi : P.underlying i = some (.int .i64)) (hci : P.cellsOf i = 1) {f0 f1 : Field} (hf0 : fs[0]? = some f0) (hf1 : fs[1]? = some f1) (h00 : f0.offset = 0) (h01 : f1.offset = 1) (ht0 : f0.type = i) (ht1 : f1.type = i)
    (h : DataW.trod enc P w base sp true fuel s cs = some x) :
    (cs = [.slice none 0 0]) ∨
    ∃ (a : Addr) (len cap : Nat), cs = [.slice (some a) len cap] ∧ len ≤ cap ∧ cap ≤ maxLen ∧
      ∀ i, i < len → ∃ a0 b0 a1 b1 a2 b2 : Int, ∀ j, j < 6 → w.cell? (a.add (i * 6 + j)) = some (([.int .i64 a0, .int .i64 b0, .int .i64 a1, .int .i64 b1, .int .i64 a2, .int .i64 b2] : List Value).getD j undef) := by
  rcases open_slice hsl h with h0 | ⟨a, len, cap, m, n, D, Pl, hcs, hb, hl, hm, hmm, hx, hi'⟩
  · exact .inl h0.1
  · refine .inr ⟨a, len, cap, hcs, hl, hm, fun k hk => ?_⟩
    obtain ⟨cs', hc, ht'⟩ := hi' k (by rw [hmm]; split <;> omega)
    rw [hct] at hc
    obtain ⟨_, hcl, hat⟩ := World.cells?_some hc
    obtain ⟨a0, b0, a1, b1, a2, b2, rfl⟩ := six_ints hcl ht he hce hi hci hf0 hf1 h00 h01 ht0 ht1 ht'
    refine ⟨a0, b0, a1, b1, a2, b2, fun j hj => ?_⟩
    rw [← Go.Deep.add_add, hat j hj]
    rcases six' hj with rfl | rfl | rfl | rfl | rfl | rfl <;> rfl
end
end Go.Proofs.YthboebhghaabnaaDoor

set_option linter.unusedSimpArgs false
set_option linter.unusedVariables false
namespace Go.Proofs.YthboebhghaabnaaDoor
open Go.RowKit Go.WideShapes Go.ChangeShapes Go.ChangeMaps Go.Deep Fk Sha
/-! Turns, mixes and openings as arguments. -/
section
variable {H : Type} {enc : TypeId × Value → H} {P : Program} {w : World} {base base' : Nat} {r : Reach} {sp : Nat → Bool} {held : Bool}
theorem take_one {cs : List Value} {i : Nat} (h : i < cs.length) : (cs.drop i).take 1 = [cs[i]] := by
  rw [List.drop_eq_getElem_cons h]; rfl
theorem bytes_of {t e : TypeId} {n : Nat} {cs : List Value} {fuel : Nat} {x : DataW H × List MemPlace} (hs : cs.length = n) (ht : P.underlying t = some (.array n e)) (he : P.underlying e = some (.int .u8)) (hce : P.cellsOf e = 1)
    (hf : DataW.trod enc P w base' sp held fuel t cs = some x) : ∃ d : List B, d.length = n ∧ cs = d.map bv := by
  obtain ⟨xs, m, _, _, _, hl, hi⟩ := DataW.trod_array ht hf
  simp only [hce, Nat.mul_one] at hi
  have key : ∀ (i : Nat) (hi : i < cs.length), ∃ b : B, cs[i] = bv b := fun i hil => by
    obtain ⟨y, g⟩ := some_at hl (show i < n by omega)
    obtain ⟨z, e0, _, wz⟩ := DataW.trod_int he ((hi i (by omega)).trans g)
    rw [take_one hil] at e0
    injection e0 with e0
    have hb : 0 ≤ z ∧ z ≤ 255 := bounds_u8 wz
    refine ⟨BitVec.ofNat 8 z.toNat, ?_⟩
    rw [e0]
    unfold bv bn
    rw [BitVec.toNat_ofNat, Nat.mod_eq_of_lt (by omega), Int.toNat_of_nonneg hb.1]
  refine ⟨(List.range n).map fun i => if hi : i < cs.length then Classical.choose (key i hi) else 0, by simp, ?_⟩
  refine List.ext_getElem (by simp [hs]) fun i h1 h2 => ?_
  have := Classical.choose_spec (key i h1)
  simp only [List.getElem_map, List.getElem_range, dif_pos h1]
  exact this
theorem three_ints {t e : TypeId} {cs : List Value} {fuel : Nat} {x : DataW H × List MemPlace} (hs : cs.length = 3) (ht : P.underlying t = some (.array 3 e)) (he : P.underlying e = some (.int .i64)) (hce : P.cellsOf e = 1)
    (hf : DataW.trod enc P w base' sp held fuel t cs = some x) : ∃ a b c : Int, cs = [.int .i64 a, .int .i64 b, .int .i64 c] ∧ wfI a ∧ wfI b ∧ wfI c := by
  obtain ⟨xs, m2, _, _, _, hxl, hel⟩ := DataW.trod_array ht hf
  simp only [hce, Nat.mul_one] at hel
  match cs, hs, hel with
  | [y0, y1, y2], _, hel =>
    obtain ⟨z0, g0⟩ := some_at hxl (show 0 < 3 by omega)
    obtain ⟨z1, g1⟩ := some_at hxl (show 1 < 3 by omega)
    obtain ⟨z2, g2⟩ := some_at hxl (show 2 < 3 by omega)
    obtain ⟨x0, e0, _, w0⟩ := DataW.trod_int he ((hel 0 (by omega)).trans g0)
    obtain ⟨x1, e1, _, w1⟩ := DataW.trod_int he ((hel 1 (by omega)).trans g1)
    obtain ⟨x2, e2, _, w2⟩ := DataW.trod_int he ((hel 2 (by omega)).trans g2)
    simp at e0 e1 e2
    subst e0 e1 e2
    exact ⟨x0, x1, x2, rfl, w0, w1, w2⟩
/-- a slice whose elements' cells are read as values of a type -/
theorem open_slG {α : Type} [Inhabited α] {m : Nat} {en : α → List Value} {Q : α → Prop} {s t : TypeId} {cs : List Value} {fuel : Nat} {x : DataW H × List MemPlace} (hm : 0 < m) (hs : P.underlying s = some (.slice t)) (hct : P.cellsOf t = m)
    (hel : ∀ (n : Nat) (cs : List Value) (x : DataW H × List MemPlace), cs.length = m → DataW.trod enc P w base sp true n t cs = some x → ∃ a : α, Q a ∧ cs = en a)
    (h : DataW.trod enc P w base sp true fuel s cs = some x) :
    ∃ (l : List α) (A : Option Addr) (c : Nat), cs = [.slice A l.length c] ∧ SlG m en w w.heap.size (.slice A l.length c) l ∧ l.length ≤ c ∧ c ≤ maxLen ∧ ∀ i, i < l.length → Q (l.getD i default) := by
  rcases open_slice hs h with h0 | ⟨a, len, cap, m2, n, D, Pl, hcs, hb, hl, hmx, hmm, hx, hi⟩
  · exact ⟨[], none, 0, h0.1, SlG.nil_ _ _, Nat.le_refl _, by unfold maxLen; omega, fun i hi => absurd hi (by simp)⟩
  · have hlm : len ≤ 9223372036854775807 := by unfold maxLen at hmx; omega
    obtain ⟨l, h1, h2⟩ := sl_of_cells (m := m) (en := en) (a := a) (len := len) (cap := cap) (w := w) (Q := Q) hm hlm (fun i hil => by
      obtain ⟨cs', hc, ht'⟩ := hi i (by rw [hmm]; split <;> omega)
      rw [hct] at hc
      obtain ⟨_, hcl, hat⟩ := World.cells?_some hc
      obtain ⟨y, hq, rfl⟩ := hel _ _ _ hcl ht'
      refine ⟨y, hq, fun j hj => ?_⟩
      rw [← Go.Deep.add_add, hat j hj, List.getElem?_eq_getElem (by omega), List.getD_eq_getElem?_getD, List.getElem?_eq_getElem (by omega)]
      rfl)
    obtain rfl : len = l.length := by obtain ⟨_, _, _, hv, _⟩ := h1; injection hv
    exact ⟨l, some a, cap, hcs, h1, hl, hmx, h2⟩
end
section
variable {H : Type} {enc : TypeId × Value → H} {w : World} {base : Nat} {r : Reach}
def wfR (t : Tr) : Prop := wfI t.p ∧ wfI t.q ∧ wfI t.r
set_option maxRecDepth 100000 in
theorem el_int {n : Nat} {cs : List Value} {x : DataW H × List MemPlace} (hc : cs.length = 1) (h : DataW.trod enc Tryd.prog w 0 (fun _ => true) true n 3 cs = some x) : ∃ a : Int, wfI a ∧ cs = encI a := by
  obtain ⟨z, e0, _, wz⟩ := DataW.trod_int Tryd.underlying3 h
  exact ⟨z, wz, e0⟩
theorem el_tr {n : Nat} {cs : List Value} {x : DataW H × List MemPlace} (hc : cs.length = 3) (h : DataW.trod enc Tryd.prog w 0 (fun _ => true) true n 56 cs = some x) : ∃ a : Tr, wfR a ∧ cs = Tr.cells a := by
  obtain ⟨a, b, c, rfl, h1, h2, h3⟩ := three_ints hc Tryd.underlying56 Tryd.underlying3 (by kernel_rfl) h
  exact ⟨⟨a, b, c⟩, ⟨h1, h2, h3⟩, rfl⟩
theorem el_dg {n : Nat} {cs : List Value} {x : DataW H × List MemPlace} (hc : cs.length = 32) (h : DataW.trod enc Tryd.prog w 0 (fun _ => true) true n 58 cs = some x) : ∃ a : List B, a.length = 32 ∧ cs = encD a := by
  obtain ⟨d, h1, h2⟩ := bytes_of hc Tryd.underlying58 Tryd.underlying5 (by kernel_rfl) h
  exact ⟨d, h1, h2⟩
theorem el_dg2 {n : Nat} {cs : List Value} {x : DataW H × List MemPlace} (hc : cs.length = 64) (h : DataW.trod enc Tryd.prog w 0 (fun _ => true) true n 131 cs = some x) : ∃ a : List B, a.length = 64 ∧ cs = encD a := by
  obtain ⟨xs, m2, _, _, _, hxl, hel⟩ := DataW.trod_array Tryd.underlying131 h
  have hd : Tryd.prog.cellsOf 58 = 32 := by kernel_rfl
  rw [hd] at hel
  obtain ⟨z0, g0⟩ := some_at hxl (show 0 < 2 by omega)
  obtain ⟨z1, g1⟩ := some_at hxl (show 1 < 2 by omega)
  obtain ⟨d0, l0, e0⟩ := el_dg (by simp; omega) ((hel 0 (by omega)).trans g0)
  obtain ⟨d1, l1, e1⟩ := el_dg (by simp; omega) ((hel 1 (by omega)).trans g1)
  refine ⟨d0 ++ d1, by simp [l0, l1], ?_⟩
  unfold encD at *
  rw [List.map_append, ← e0, ← e1]
  simp only [Nat.zero_mul, List.drop_zero, Nat.one_mul]
  rw [List.take_of_length_le (l := cs.drop 32) (by simp; omega), List.take_append_drop]
theorem el_se {n : Nat} {cs : List Value} {x : DataW H × List MemPlace} (hc : cs.length = 6) (h : DataW.trod enc Tryd.prog w 0 (fun _ => true) true n 68 cs = some x) : ∃ a : Se, True ∧ cs = encS a := by
  obtain ⟨a0, b0, a1, b1, a2, b2, rfl⟩ := six_ints hc Tryd.underlying68 Tryd.underlying66 (by kernel_rfl) Tryd.underlying3 (by kernel_rfl) rfl rfl rfl rfl rfl rfl h
  exact ⟨⟨⟨a0, b0⟩, ⟨a1, b1⟩, ⟨a2, b2⟩⟩, trivial, rfl⟩
theorem el_og {n : Nat} {cs : List Value} {x : DataW H × List MemPlace} (hc : cs.length = 36) (h : DataW.trod enc Tryd.prog w 0 (fun _ => true) true n 60 cs = some x) : ∃ o : Og, (wfI o.a ∧ wfR o.r ∧ o.s.length = 32) ∧ cs = Og.cells o := by
  obtain ⟨ys, n, _, _, hlen, hyl, hfs⟩ := DataW.trod_struct Tryd.underlying60 h
  obtain ⟨z0, g0⟩ := some_at hyl (show 0 < _ by decide)
  obtain ⟨z1, g1⟩ := some_at hyl (show 1 < _ by decide)
  obtain ⟨z2, g2⟩ := some_at hyl (show 2 < _ by decide)
  have a0 := (hfs 0 _ rfl).trans g0
  have a1 := (hfs 1 _ rfl).trans g1
  have a2 := (hfs 2 _ rfl).trans g2
  have c0 : Tryd.prog.cellsOf 3 = 1 := by kernel_rfl
  have c1 : Tryd.prog.cellsOf 56 = 3 := by kernel_rfl
  have c2 : Tryd.prog.cellsOf 58 = 32 := by kernel_rfl
  replace a0 : DataW.trod enc Tryd.prog w 0 (fun _ => true) true n 3 ((cs.drop 0).take (Tryd.prog.cellsOf 3)) = some z0 := a0
  replace a1 : DataW.trod enc Tryd.prog w 0 (fun _ => true) true n 56 ((cs.drop 1).take (Tryd.prog.cellsOf 56)) = some z1 := a1
  replace a2 : DataW.trod enc Tryd.prog w 0 (fun _ => true) true n 58 ((cs.drop 4).take (Tryd.prog.cellsOf 58)) = some z2 := a2
  rw [c0] at a0
  rw [c1] at a1
  rw [c2] at a2
  obtain ⟨a, wa, e0⟩ := el_int (by simp; omega) a0
  obtain ⟨b, wb, e1⟩ := el_tr (by simp; omega) a1
  obtain ⟨d, wd, e2⟩ := el_dg (by simp; omega) a2
  refine ⟨⟨a, b, d⟩, ⟨wa, wb, wd⟩, ?_⟩
  unfold Og.cells
  unfold encD at e2
  unfold encI at e0
  unfold Tr.cells at e1
  simp only [List.drop_zero] at e0
  rw [List.take_of_length_le (by simp; omega)] at e2
  rw [← e2]
  have h4 : ∃ y0 y1 y2 y3 ys, cs = y0 :: y1 :: y2 :: y3 :: ys := by
    have hc4 : 4 ≤ cs.length := by rw [hc]; decide
    clear hc a0 a1 a2 e0 e1 e2 h hyl hfs hlen
    match cs, hc4 with
    | y0 :: y1 :: y2 :: y3 :: ys, _ => exact ⟨y0, y1, y2, y3, ys, rfl⟩
  obtain ⟨y0, y1, y2, y3, ys', rfl⟩ := h4
  clear hc a0 a1 a2 e2 h hyl hfs hlen
  simp at e0 e1
  obtain ⟨h1, h2, h3⟩ := e1
  rw [e0, h1, h2, h3]
  rfl
structure wfTn (t : Tn) : Prop where
  l : ∀ i, i < t.l.length → wfI (t.l.getD i default)
  r : ∀ i, i < t.r.length → wfI (t.r.getD i default)
  rl : ∀ i, i < t.rl.length → wfR (t.rl.getD i default)
  rr : ∀ i, i < t.rr.length → wfR (t.rr.getD i default)
  s : ∀ i, i < t.s.length → (t.s.getD i default).length = 64
set_option maxRecDepth 100000 in
theorem open_turn {v : Value} {d : DataW H} {p : List MemPlace} (hv : Value.okWide Tryd.prog w r base 26 v) (h : DataW.Trod enc Tryd.prog w 0 (fun _ => true) true 26 v d p) :
    ∃ (t : Tn) (x : TnA), v = .agg (x.cells t).toArray ∧ TnS w w.heap.size x t ∧ wfTn t := by
  obtain ⟨fuel, hf⟩ := h
  obtain ⟨ys, n, _, _, hlen, hyl, hfs⟩ := DataW.trod_struct Tryd.underlying26 hf
  obtain ⟨z0, g0⟩ := some_at hyl (show 0 < _ by decide)
  obtain ⟨z1, g1⟩ := some_at hyl (show 1 < _ by decide)
  obtain ⟨z2, g2⟩ := some_at hyl (show 2 < _ by decide)
  obtain ⟨z3, g3⟩ := some_at hyl (show 3 < _ by decide)
  obtain ⟨z4, g4⟩ := some_at hyl (show 4 < _ by decide)
  have a0 := (hfs 0 _ rfl).trans g0
  have a1 := (hfs 1 _ rfl).trans g1
  have a2 := (hfs 2 _ rfl).trans g2
  have a3 := (hfs 3 _ rfl).trans g3
  have a4 := (hfs 4 _ rfl).trans g4
  have hag : ∃ cs, v = .agg cs ∧ cs.size = 5 := by
    simp only [Value.okWide, Tryd.underlying26] at hv
    obtain ⟨cs, h1, h2, _⟩ := hv
    exact ⟨cs, h1, h2.trans (by kernel_rfl)⟩
  obtain ⟨⟨cs⟩, rfl, hs⟩ := hag
  have hs5 : cs.length = 5 := by simpa using hs
  obtain ⟨l0, A0, c0, e0, s0, _, _, q0⟩ := open_slG (m := 1) (en := encI) (Q := wfI) (by omega) Tryd.underlying22 (by kernel_rfl) (fun n cs x h1 h2 => el_int h1 h2) a0
  obtain ⟨l1, A1, c1, e1, s1, _, _, q1⟩ := open_slG (m := 1) (en := encI) (Q := wfI) (by omega) Tryd.underlying22 (by kernel_rfl) (fun n cs x h1 h2 => el_int h1 h2) a1
  obtain ⟨l2, A2, c2, e2, s2, _, _, q2⟩ := open_slG (m := 3) (en := Tr.cells) (Q := wfR) (by omega) Tryd.underlying23 (by kernel_rfl) (fun n cs x h1 h2 => el_tr h1 h2) a2
  obtain ⟨l3, A3, c3, e3, s3, _, _, q3⟩ := open_slG (m := 3) (en := Tr.cells) (Q := wfR) (by omega) Tryd.underlying23 (by kernel_rfl) (fun n cs x h1 h2 => el_tr h1 h2) a3
  obtain ⟨l4, A4, c4, e4, s4, _, _, q4⟩ := open_slG (m := 64) (en := encD) (Q := fun d => d.length = 64) (by omega) Tryd.underlying24 (by kernel_rfl) (fun n cs x h1 h2 => el_dg2 h1 h2) a4
  have k1 : Tryd.prog.cellsOf 22 = 1 := by kernel_rfl
  have k2 : Tryd.prog.cellsOf 23 = 1 := by kernel_rfl
  have k3 : Tryd.prog.cellsOf 24 = 1 := by kernel_rfl
  refine ⟨⟨l0, l1, l2, l3, l4⟩, ⟨A0, c0, A1, c1, A2, c2, A3, c3, A4, c4⟩, ?_, ⟨s0, s1, s2, s3, s4⟩, ⟨q0, q1, q2, q3, q4⟩⟩
  match cs, hs5 with
  | [x0, x1, x2, x3, x4], _ =>
    simp [Value.cells, k1, k2, k3] at e0 e1 e2 e3 e4
    subst e0 e1 e2 e3 e4
    rfl
end
end Go.Proofs.YthboebhghaabnaaDoor

set_option linter.unusedSimpArgs false
set_option linter.unusedVariables false
namespace Go.Proofs.YthboebhghaabnaaDoor
open Go.RowKit Go.WideShapes Go.ChangeShapes Go.ChangeMaps Go.Deep Fk Sha
/-! Mixes and lists of openings as arguments. -/
section
variable {H : Type} {enc : TypeId × Value → H} {w : World} {base : Nat} {r : Reach}
def wfOg (o : Og) : Prop := wfI o.a ∧ wfR o.r ∧ o.s.length = 32
set_option maxRecDepth 100000 in
theorem open_mix {v : Value} {d : DataW H} {p : List MemPlace} (hv : Value.okWide Tryd.prog w r base 45 v) (h : DataW.Trod enc Tryd.prog w 0 (fun _ => true) true 45 v d p) :
    ∃ (m : Mx) (x : MxA), v = .agg (x.cells m).toArray ∧ MxS w w.heap.size x m ∧ MxOK m := by
  obtain ⟨fuel, hf⟩ := h
  obtain ⟨ys, n, _, _, hlen, hyl, hfs⟩ := DataW.trod_struct Tryd.underlying45 hf
  obtain ⟨z0, g0⟩ := some_at hyl (show 0 < _ by decide)
  obtain ⟨z1, g1⟩ := some_at hyl (show 1 < _ by decide)
  obtain ⟨z2, g2⟩ := some_at hyl (show 2 < _ by decide)
  obtain ⟨z3, g3⟩ := some_at hyl (show 3 < _ by decide)
  obtain ⟨z4, g4⟩ := some_at hyl (show 4 < _ by decide)
  have a0 := (hfs 0 _ rfl).trans g0
  have a1 := (hfs 1 _ rfl).trans g1
  have a2 := (hfs 2 _ rfl).trans g2
  have a3 := (hfs 3 _ rfl).trans g3
  have a4 := (hfs 4 _ rfl).trans g4
  have hag : ∃ cs, v = .agg cs ∧ cs.size = 5 := by
    simp only [Value.okWide, Tryd.underlying45] at hv
    obtain ⟨cs, h1, h2, _⟩ := hv
    exact ⟨cs, h1, h2.trans (by kernel_rfl)⟩
  obtain ⟨⟨cs⟩, rfl, hs⟩ := hag
  have hs5 : cs.length = 5 := by simpa using hs
  obtain ⟨l0, A0, c0, e0, s0, _, _, q0⟩ := open_slG (m := 6) (en := encS) (Q := fun _ => True) (by omega) Tryd.underlying42 (by kernel_rfl) (fun n cs x h1 h2 => el_se h1 h2) a0
  obtain ⟨l1, A1, c1, e1, s1, _, _, q1⟩ := open_slG (m := 6) (en := encS) (Q := fun _ => True) (by omega) Tryd.underlying42 (by kernel_rfl) (fun n cs x h1 h2 => el_se h1 h2) a1
  obtain ⟨l2, A2, c2, e2, s2, _, _, q2⟩ := open_slG (m := 6) (en := encS) (Q := fun _ => True) (by omega) Tryd.underlying42 (by kernel_rfl) (fun n cs x h1 h2 => el_se h1 h2) a2
  obtain ⟨l3, A3, c3, e3, s3, _, _, q3⟩ := open_slG (m := 32) (en := encD) (Q := fun d => d.length = 32) (by omega) Tryd.underlying43 (by kernel_rfl) (fun n cs x h1 h2 => el_dg h1 h2) a3
  obtain ⟨l4, A4, c4, e4, s4, _, _, q4⟩ := open_slG (m := 32) (en := encD) (Q := fun d => d.length = 32) (by omega) Tryd.underlying43 (by kernel_rfl) (fun n cs x h1 h2 => el_dg h1 h2) a4
  have k1 : Tryd.prog.cellsOf 42 = 1 := by kernel_rfl
  have k2 : Tryd.prog.cellsOf 43 = 1 := by kernel_rfl
  refine ⟨⟨l0, l1, l2, l3, l4⟩, ⟨A0, c0, A1, c1, A2, c2, A3, c3, A4, c4⟩, ?_, ⟨s0, s1, s2, s3, s4⟩, ⟨q3, q4⟩⟩
  match cs, hs5 with
  | [x0, x1, x2, x3, x4], _ =>
    simp [Value.cells, k1, k2] at e0 e1 e2 e3 e4
    subst e0 e1 e2 e3 e4
    rfl
set_option maxRecDepth 100000 in
/-- a list of openings as an argument -/
theorem open_sl_og {v : Value} {d : DataW H} {p : List MemPlace} (hv : Value.okWide Tryd.prog w r base 30 v) (h : DataW.Trod enc Tryd.prog w 0 (fun _ => true) true 30 v d p) :
    ∃ l : List Og, SlG 36 Og.cells w w.heap.size v l ∧ ∀ i, i < l.length → wfOg (l.getD i default) := by
  obtain ⟨a, len, cap, rfl⟩ := okWide_slice Tryd.underlying30 hv
  obtain ⟨fuel, hf⟩ := h
  rw [cells_slice] at hf
  obtain ⟨l, A, c, e, s, _, _, q⟩ := open_slG (m := 36) (en := Og.cells) (Q := wfOg) (by omega) Tryd.underlying30 (by kernel_rfl) (fun n cs x h1 h2 => el_og h1 h2) hf
  obtain ⟨rfl, rfl, rfl⟩ : a = A ∧ len = l.length ∧ cap = c := by simpa using e
  exact ⟨l, s, q⟩
end
end Go.Proofs.YthboebhghaabnaaDoor

namespace Go.Proofs.YthboebhghaabnaaDoor
open Go.RowKit Go.WideShapes Go.ChangeShapes
/-! The row's last step where the call left a world of which 'Below' is known. -/
section
variable {H : Type} {enc : TypeId × Value → H} {P : Program}
theorem post_of_below {f : Func} {s : ChangeSpec} {apart fresh handsOn again : Bool} {W W' : World} {args : Array Value} {v : Value} {ds gs : List (DataW H)} {before pa pv : List MemPlace}
    (hW : DataW.Whole enc P f.params.toList s.vars apart W args.toList ds gs before)
    (hres : ∀ (b : Nat) (sp : Nat → Bool) (hd : Bool), DataW.TrodAll enc P W' b sp hd f.resultTypes.toList (v.resultList f.resultTypes.size) (s.fn H (ds ++ gs)).results [])
    (hargs : ∀ sp : Nat → Bool, (∀ p ∈ before, sp p.block = true) → DataW.TrodAll enc P W' 0 sp true f.params.toList args.toList (s.fn H (ds ++ gs)).args pa)
    (hvars : ∀ sp : Nat → Bool, (∀ p ∈ before, sp p.block = true) → DataW.TrodVars enc P W' sp s.vars (s.fn H (ds ++ gs)).vars pv)
    (hps : before = pa ++ pv) (hb : Below W.heap.size W W')
    (hok : ∀ (j : Nat) (t : TypeId) (r : Value), f.resultTypes[j]? = some t → (v.resultList f.resultTypes.size)[j]? = some r → Value.okWide P W' .any 0 t r) :
    s.post enc P f apart fresh handsOn again W args v W' := by
  have hlt : ∀ p ∈ before, p.block < W.heap.size := fun p hp => hW.lt p hp
  have hold : ∀ p ∈ before, (fun b => decide (b < W.heap.size)) p.block = true := fun p hp => by simpa using hlt p hp
  refine ⟨ds, gs, before, [], pa, pv, hW, hres _ _ _, hargs _ hold, hvars _ hold, World.keptBut_mono (fun p hp => ⟨hp, ?_⟩) (hb.frame (· ∈ before)), fun _ => ?_⟩
  · rw [hps, List.mem_append] at hp
    exact Or.inr hp
  · obtain ⟨_, _, _, _, _, hz, hn⟩ := hW
    refine ⟨hok, _, _, ([] ++ pa) ++ pv, ⟨[] ++ pa, pv, trodAll_append (hargs _ (fun _ _ => rfl)) (hres _ _ _), hvars _ (fun _ _ => rfl), rfl, ?_, ?_⟩, ?_⟩
    · intro b off hp
      have hin : MemPlace.cell b off ∈ before := by rw [hps]; simpa using hp
      rw [hb.frozen (hlt _ hin)]
      exact hz b off hin
    · intro ha
      have := hn ha
      rw [hps] at this
      simpa using this
    · intro p hp _
      rw [hps]
      simpa using hp
end
end Go.Proofs.YthboebhghaabnaaDoor

namespace Go.Proofs.YthboebhghaabnaaDoor
open Go.ChangeShapes Go.WideShapes Go.RowKit Go.WideElems Fk Sha
/-! What the listed tables give. -/
theorem ints_of {enc : TypeId × Value → Unit} {P : Program} {W : World} {base : Nat} {spare : Nat → Bool} {held : Bool} {fuel n : Nat} {t e : TypeId} {k : IntKind} {cs : List Value} {D : List (DataW Unit)} {p : List MemPlace} (ht : P.underlying t = some (.array n e)) (he : P.underlying e = some (.int k)) (hc : P.cellsOf e = 1)
    (h : DataW.trod enc P W base spare held fuel t cs = some (.agg D, p)) {i : Nat} (hi : i < n) : ∃ x : Int, cs[i]? = some (.int k x) ∧ D[i]? = some (.lit (.int k x)) := by
  obtain ⟨xs, m, _, hx, _, hl, hel⟩ := DataW.trod_array ht h
  have h1 := hel i hi
  rw [hc, Nat.mul_one] at h1
  obtain ⟨y, hy⟩ : ∃ y, xs[i]? = some y := ⟨_, List.getElem?_eq_getElem (by omega)⟩
  obtain ⟨x, e1, e2, _⟩ := DataW.trod_int he (h1.trans hy)
  refine ⟨x, ?_, ?_⟩
  · have := congrArg (fun l : List Value => l[0]?) e1
    simp only [List.getElem?_take, List.getElem?_drop] at this
    simpa using this
  · simp only [Prod.mk.injEq, DataW.agg.injEq] at hx
    rw [hx.1, List.getElem?_map, hy, Option.map_some, e2]
theorem gStart : Tryd.prog.globalNamed "franking/digest.start" = some 0 := by kernel_rfl
theorem gNumbers : Tryd.prog.globalNamed "franking/digest.numbers" = some 1 := by kernel_rfl
theorem tStart : (Tryd.prog.globals[0]?).map (·.type) = some 143 := by kernel_rfl
theorem tNumbers : (Tryd.prog.globals[1]?).map (·.type) = some 165 := by kernel_rfl
theorem dStart : (Rows.laid_franking_digest_start : DataW Unit) = .agg (startS.list.map fun x => .lit (.int .u32 (x.toNat : Int))) := by kernel_rfl
theorem dNumbers : (Rows.laid_franking_digest_numbers : DataW Unit) = .agg (numbersL.map fun x => .lit (.int .u32 (x.toNat : Int))) := by kernel_rfl
theorem tab_laid {W : World} (h : laidMetH Tryd.prog [("franking/digest.start", Rows.laid_franking_digest_start), ("franking/digest.numbers", Rows.laid_franking_digest_numbers)] W) : Tab W ∧ (1 < W.heap.size ∧ 0 < W.heap.size) := by
  rw [MakeChecks.laidMetH_plain _ _ _ (by kernel_rfl)] at h
  obtain ⟨ps, ⟨g0, t0, cs0, f0, p0, q0, hg0, ht0, hv0, hd0, ⟨g1, t1, cs1, f1, p1, q1, hg1, ht1, hv1, hd1, _, _⟩, _⟩, _, _⟩ := h
  obtain rfl := Option.some.inj (gStart.symm.trans hg0)
  obtain rfl := Option.some.inj (gNumbers.symm.trans hg1)
  obtain rfl := Option.some.inj (tStart.symm.trans ht0)
  obtain rfl := Option.some.inj (tNumbers.symm.trans ht1)
  rw [dStart] at hd0
  rw [dNumbers] at hd1
  have k1 : ∀ i, i < 64 → W.cell? ⟨1, i, none⟩ = some (u (numbersL.getD i 0)) := by
    intro i hi
    obtain ⟨x, e1, e2⟩ := ints_of Tryd.underlying165 Tryd.underlying142 (by kernel_rfl) hd1 hi
    have hl : i < numbersL.length := hi
    rw [List.getElem?_map, List.getElem?_eq_getElem hl] at e2
    have e3 : un (numbersL.getD i 0) = x := by
      rw [List.getD_eq_getElem?_getD, List.getElem?_eq_getElem hl]
      simp only [Option.map_some, Option.some.injEq, DataW.lit.injEq, Lit.int.injEq, true_and] at e2
      exact e2
    have := World.var?_cell hg1 hv1 i
    rw [this]
    unfold u
    rw [e3]
    simpa using e1
  have k2 : ∀ i, i < 8 → W.cell? ⟨0, i, none⟩ = some (u (startS.list.getD i 0)) := by
    intro i hi
    obtain ⟨x, e1, e2⟩ := ints_of Tryd.underlying143 Tryd.underlying142 (by kernel_rfl) hd0 hi
    have hl : i < startS.list.length := hi
    rw [List.getElem?_map, List.getElem?_eq_getElem hl] at e2
    have e3 : un (startS.list.getD i 0) = x := by
      rw [List.getD_eq_getElem?_getD, List.getElem?_eq_getElem hl]
      simp only [Option.map_some, Option.some.injEq, DataW.lit.injEq, Lit.int.injEq, true_and] at e2
      exact e2
    have := World.var?_cell hg0 hv0 i
    rw [this]
    unfold u
    rw [e3]
    simpa using e1
  exact ⟨⟨k1, k2⟩, World.block_lt_of_cell? W _ (k1 0 (by omega)), World.block_lt_of_cell? W _ (k2 0 (by omega))⟩
end Go.Proofs.YthboebhghaabnaaDoor
