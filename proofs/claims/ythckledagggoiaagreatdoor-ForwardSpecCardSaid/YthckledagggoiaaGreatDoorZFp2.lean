import Derived.Test.YthckledagggoiaaGreatDoorZFp1
import Derived.Test.YthckledagggoiaaGreatDoorZFr7
import Derived.Deep.LoopGhost
set_option linter.unusedSimpArgs false
set_option linter.unusedVariables false
namespace Go.Proofs.YthckledagggoiaaGreatDoor
open Go.RowKit Go.Shelf Fk Sha
/-! frankingref36.Line, Error -/
theorem lineTo_eq (o te x0 x1 : Int) (x : Lx) (h0 : x.ol.getD 0 default = x0) (h1 : lastI x.ol = x1) : lineTo o te x = (decide (x0 = o) && decide (x1 = te)) := (lineTo_of h0 h1).symm
set_option maxRecDepth 100000 in
set_option maxHeartbeats 4000000 in
theorem rline_any (l : List Lx) (n : Int) (v : Value) (o te : Int) (w : World) (h : SlX w w.heap.size v l) (hl2 : ∀ q, q < l.length → 2 ≤ (l.getD q default).ol.length ∧ (l.getD q default).ol.length ≤ 1000000) :
    Calls Tryz.prog 46 #[ttV n v, .int .i64 o, .int .i64 te] w fun e w' => e = .returned (.int .i64 (optI (idxO l o te))) ∧ Below w.heap.size w w' := by
  have HS := Lib.hid h
  have HL := Lib.hid hl2
  obtain ⟨⟨_, A, c, rfl, _⟩, _⟩ := h
  have hT := TS.start w n (.slice A l.length c)
  obtain ⟨t0, t1⟩ := hT.cells
  clear hl2
  go_enter Tryz.func46, Tryz.ntmps46
  go_wp2_with fail
  clear t0 t1
  go_loopg [7] l.length (fun gg iv wr => ∃ k : Nat, iv = .int .i64 k ∧ k + gg = l.length ∧ TS w wr n (.slice A l.length c) ∧ Hid (∀ q, q < k → lineTo o te (l.getD q default) = false))
  case atStart => exact ⟨0, rfl, by omega, hT, fun q hq => by omega⟩
  case round =>
    clear hT
    obtain ⟨k, rfl, hkg, hT, HA⟩ := hrel
    obtain ⟨t0, t1⟩ := hT.cells
    by_cases hlt : k < l.length
    · obtain ⟨_, A', c', hv, hE⟩ := (HS.out.below hT.bel).1
      obtain ⟨b, off, rfl, hbb, hE⟩ := hE (by omega)
      cases hv
      obtain ⟨d0, _, _, _, _, _⟩ := cellsX hE hlt
      have hok := HS.out.2 k hlt
      replace hok := hok.below hT.bel
      have hlen := HL.out k hlt
      have hidx := fun h => findK_some (f := fun q => lineTo o te (l.getD q default)) hlt h HA.out
      obtain ⟨x, hx⟩ : ∃ x, l.getD k default = x := ⟨_, rfl⟩
      rw [hx] at d0 hok hlen hidx
      have HX := Lib.hid hx
      obtain ⟨ov, gv, cl, rm, rv, pv, ol, gl, rl, pl⟩ := x
      obtain ⟨⟨_, a1, c1, z1, y1⟩, _⟩ := hok
      simp only at d0 z1 y1 hlen
      obtain ⟨m, hm⟩ : ∃ m, ol.length = m + 1 := ⟨ol.length - 1, by omega⟩
      obtain ⟨b1, off1, rfl, hb1, y1⟩ := y1 (by omega)
      have y0 := CellsG.int y1 (show 0 < ol.length by omega)
      have ym := CellsG.int y1 (show m < ol.length by omega)
      have hla : lastI ol = ol.getD m default := by unfold lastI; rw [hm]; rfl
      rw [hm] at z1
      have hLT := lineTo_eq o te (ol.getD 0 default) (ol.getD m default) ⟨ov, gv, cl, rm, rv, pv, ol, gl, rl, pl⟩ rfl hla
      rw [z1] at d0
      rw [Nat.add_zero] at y0
      obtain ⟨x0, hx0⟩ : ∃ x, ol.getD 0 default = x := ⟨_, rfl⟩
      obtain ⟨x1, hx1⟩ : ∃ x, ol.getD m default = x := ⟨_, rfl⟩
      rw [hx0, hx1] at hLT
      rw [hx0] at y0
      rw [hx1] at ym
      rw [hLT] at hidx
      have HLT := Lib.hid (show lineTo o te (l.getD k default) = _ from by rw [HX.out, hLT])
      have s1 : (0 : Int) ≤ k := by omega
      have s2 : (k : Int) < l.length := by omega
      have h1 : ((m + 1 : Nat) : Int) - 1 = (m : Int) := by omega
      have h2 : (0 : Int) ≤ (m : Int) := by omega
      have h3 : ¬ ((m : Int) + 1 ≤ (m : Int)) := by omega
      have hwr : IntKind.i64.wrap (m : Int) = (m : Int) := IntWalk.i64_in _ (by omega)
      clear hE hx hLT hla hlen y1 hm hx0 hx1 z1
      by_cases q1 : x0 = o
      · have f2 : (x0 == o) = true := by rw [q1]; exact beq_self_eq_true o
        by_cases q2 : x1 = te
        · have f3 : (x1 == te) = true := by rw [q2]; exact beq_self_eq_true te
          have hi : idxO l o te = some k := hidx (by rw [decide_eq_true q1, decide_eq_true q2]; rfl)
          have HI := Lib.hid hi
          clear hidx hi q1 q2
          go_wp2_with fail
          go_ret
          exact ⟨by rw [HI.out]; rfl, hT.bel⟩
        · have f3 : (x1 == te) = false := beq_eq_false_iff_ne.2 q2
          have hlf : lineTo o te (l.getD k default) = false := by rw [HLT.out, decide_eq_false q2, Bool.and_false]
          have HLF := Lib.hid hlf
          clear hidx hlf q1 q2
          go_wp2_with fail
          go_roundg (gk - 1)
          case measure => omega
          case rel => exact ⟨k + 1, by first | rfl | go_num, by omega, hT, fun q hq => by
            by_cases hqk : q = k
            · subst hqk; exact HLF.out
            · exact HA.out q (by omega)⟩
      · have f2 : (x0 == o) = false := beq_eq_false_iff_ne.2 q1
        have hlf : lineTo o te (l.getD k default) = false := by rw [HLT.out, decide_eq_false q1, Bool.false_and]
        have HLF := Lib.hid hlf
        clear hidx hlf q1
        go_wp2_with fail
        go_roundg (gk - 1)
        case measure => omega
        case rel => exact ⟨k + 1, by first | rfl | go_num, by omega, hT, fun q hq => by
          by_cases hqk : q = k
          · subst hqk; exact HLF.out
          · exact HA.out q (by omega)⟩
    · obtain rfl : k = l.length := by omega
      have hi : idxO l o te = none := findK_none HA.out
      have HI := Lib.hid hi
      clear hi
      go_wp2_with fail
      go_ret
      exact ⟨by rw [HI.out]; rfl, hT.bel⟩
theorem chkK_is (l : List Lx) (keys : List Int) (s p o : Int) : chkK l keys s p o = fchkE keys.length l.length (keys.all vld) s p o := rfl
theorem fchk_len {nk nl : Nat} {kb : Bool} {s p o : Int} (h : (nk : Int) ≠ nl) : fchkE nk nl kb s p o = 1 := by unfold fchkE; rw [if_neg (by simpa using h)]
theorem fchk_key {nk nl : Nat} {s p o : Int} (h : (nk : Int) = nl) : fchkE nk nl false s p o = 90 := by unfold fchkE; rw [if_pos (by simpa using h)]; rfl
theorem fchk_sec {nk nl : Nat} {s p o : Int} (h : (nk : Int) = nl) (hs : secK s = false) : fchkE nk nl true s p o = 110 := by unfold fchkE; rw [if_pos (by simpa using h), if_pos rfl, hs]; rfl
theorem fchk_off {nk nl : Nat} {s p o : Int} (h : (nk : Int) = nl) (hs : secK s = true) (ho : offB o = false) : fchkE nk nl true s p o = 1 := by unfold fchkE; rw [if_pos (by simpa using h), if_pos rfl, hs, if_pos rfl, ho]; rfl
theorem fchk_ppl {nk nl : Nat} {s p o : Int} (h : (nk : Int) = nl) (hs : secK s = true) (ho : offB o = true) (hp : manyP p = false) : fchkE nk nl true s p o = 1 := by unfold fchkE; rw [if_pos (by simpa using h), if_pos rfl, hs, if_pos rfl, ho, if_pos rfl, hp]; rfl
theorem fchk_ok {nk nl : Nat} {s p o : Int} (h : (nk : Int) = nl) (hs : secK s = true) (ho : offB o = true) (hp : manyP p = true) : fchkE nk nl true s p o = 0 := by unfold fchkE; rw [if_pos (by simpa using h), if_pos rfl, hs, if_pos rfl, ho, if_pos rfl, hp]; rfl
theorem rng3 (x a b : Int) : (x < a ∧ (decide (a ≤ x) && decide (x < b)) = false) ∨ (¬ x < a ∧ b ≤ x ∧ (decide (a ≤ x) && decide (x < b)) = false) ∨ (¬ x < a ∧ ¬ b ≤ x ∧ (decide (a ≤ x) && decide (x < b)) = true) := by
  by_cases h1 : x < a
  · exact .inl ⟨h1, by rw [decide_eq_false (show ¬ a ≤ x by omega)]; rfl⟩
  · by_cases h2 : b ≤ x
    · exact .inr (.inl ⟨h1, h2, by rw [decide_eq_false (show ¬ x < b by omega), Bool.and_false]⟩)
    · exact .inr (.inr ⟨h1, h2, by rw [decide_eq_true (show a ≤ x by omega), decide_eq_true (show x < b by omega)]; rfl⟩)
theorem rng3' (x a b : Int) : (x < a ∧ (decide (a ≤ x) && decide (x ≤ b)) = false) ∨ (¬ x < a ∧ b < x ∧ (decide (a ≤ x) && decide (x ≤ b)) = false) ∨ (¬ x < a ∧ ¬ b < x ∧ (decide (a ≤ x) && decide (x ≤ b)) = true) := by
  by_cases h1 : x < a
  · exact .inl ⟨h1, by rw [decide_eq_false (show ¬ a ≤ x by omega)]; rfl⟩
  · by_cases h2 : b < x
    · exact .inr (.inl ⟨h1, h2, by rw [decide_eq_false (show ¬ x ≤ b by omega), Bool.and_false]⟩)
    · exact .inr (.inr ⟨h1, h2, by rw [decide_eq_true (show a ≤ x by omega), decide_eq_true (show x ≤ b by omega)]; rfl⟩)
def errR (l : List Lx) (n : Int) (keys : List Int) (s people office : Int) : Int := if ttE l n ≠ 0 then ttE l n else chkK l keys s people office
set_option maxRecDepth 100000 in
set_option maxHeartbeats 8000000 in
theorem rerror_any (l : List Lx) (n : Int) (v : Value) (keys : List Int) (kv : Value) (s people office : Int) (w : World) (h : SlX w w.heap.size v l) (hk : SlI w w.heap.size kv keys) (hcap : capX l) :
    Calls Tryz.prog 44 #[ttV n v, kv, .int .i64 s, .int .i64 people, .int .i64 office] w fun e w' => e = .returned (.int .i64 (errR l n keys s people office)) ∧ Below w.heap.size w w' := by
  have htt := fun (W : World) (hb : Below w.heap.size w W) => rtt_any l n v W (h.below hb) hcap
  have KS := Lib.hid hk
  obtain ⟨⟨_, A, c, rfl, _⟩, _⟩ := h
  obtain ⟨_, Ak, ck, rfl, _⟩ := hk
  have hT := TS.start w n (.slice A l.length c)
  obtain ⟨t0, t1⟩ := hT.cells
  unfold errR
  by_cases ht : ttE l n = 0
  · rw [if_neg (by simp [ht])]
    rw [ht] at htt
    have TT := Lib.hid htt
    rw [chkK_is]
    clear htt ht hcap
    by_cases hlen : (keys.length : Int) = l.length
    · have HLEN := Lib.hid hlen
      have hb0 : ((keys.length : Int) != l.length) = false := by rw [hlen]; simp
      obtain ⟨R, hR⟩ : ∃ R, fchkE keys.length l.length (keys.all vld) s people office = R := ⟨_, rfl⟩
      rw [hR]
      have HR := Lib.hid hR
      clear hR hlen
      go_enter Tryz.func44, Tryz.ntmps44
      go_wp2_with (go_at_call 20; (with_reducible refine (TT.out _ hT.bel).mono ?_); rintro e X ⟨rfl, hb⟩; replace hT := hT.below hb; clear hb t0 t1; obtain ⟨t0, t1⟩ := hT.cells)
      clear t0 t1 hb0
      go_loopg [12] keys.length (fun gg iv wr => ∃ k : Nat, iv = .int .i64 k ∧ k + gg = keys.length ∧ TS w wr n (.slice A l.length c) ∧ Hid (∀ q, q < k → vld (keys.getD q default) = true))
      case atStart => exact ⟨0, rfl, by omega, hT, fun q hq => by omega⟩
      case round =>
        clear hT
        obtain ⟨k, rfl, hkg, hT, HA⟩ := hrel
        by_cases hlt : k < keys.length
        · obtain ⟨_, A', c', hv, hE⟩ := KS.out.below hT.bel
          obtain ⟨b, off, rfl, hbb, hE⟩ := hE (by omega)
          cases hv
          have y0 := CellsG.int hE hlt
          obtain ⟨x0, hx0⟩ : ∃ x, keys.getD k default = x := ⟨_, rfl⟩
          have hmem : x0 ∈ keys := by rw [← hx0, List.getD_eq_getElem?_getD, List.getElem?_eq_getElem hlt]; exact List.getElem_mem hlt
          rw [hx0] at y0
          have hv := fun W => refvalid_any x0 W
          have s1 : (0 : Int) ≤ k := by omega
          have s2 : (k : Int) < keys.length := by omega
          cases hvl : vld x0 with
          | true =>
            rw [hvl] at hv
            have HV := Lib.hid hv
            have HX := Lib.hid (show vld (keys.getD k default) = true by rw [hx0]; exact hvl)
            clear hv hvl hx0 hmem hE
            go_wp2_with (go_at_call 50; (with_reducible refine (HV.out _).mono ?_); rintro e X ⟨rfl, rfl⟩)
            go_roundg (gk - 1)
            case measure => omega
            case rel => exact ⟨k + 1, by first | rfl | go_num, by omega, hT, fun q hq => by
              by_cases hqk : q = k
              · subst hqk; exact HX.out
              · exact HA.out q (by omega)⟩
          | false =>
            rw [hvl] at hv
            have HV := Lib.hid hv
            have hall : keys.all vld = false := by rw [List.all_eq_false]; exact ⟨x0, hmem, by simp [hvl]⟩
            have hr : R = 90 := by rw [← HR.out, hall]; exact fchk_key HLEN.out
            have HRR := Lib.hid hr
            clear hv hvl hx0 hmem hE hall hr
            go_wp2_with (go_at_call 50; (with_reducible refine (HV.out _).mono ?_); rintro e X ⟨rfl, rfl⟩)
            go_ret
            exact ⟨by rw [HRR.out]; rfl, hT.bel⟩
        · obtain rfl : k = keys.length := by omega
          have hall : keys.all vld = true := by
            rw [List.all_eq_true]
            intro y hy
            obtain ⟨i, hi, rfl⟩ := List.getElem_of_mem hy
            have := HA.out i hi
            rwa [List.getD_eq_getElem?_getD, List.getElem?_eq_getElem hi] at this
          have hr : fchkE keys.length l.length true s people office = R := by rw [← HR.out, hall]
          have HRR := Lib.hid hr
          clear hall hr HA hlt hkg
          rcases rng3 s 1 1073741789 with ⟨a1, z1⟩ | ⟨a1, a2, z1⟩ | ⟨a1, a2, z1⟩
          · have a1 := decide_eq_true a1
            have hr : R = 110 := HRR.out.symm.trans (fchk_sec HLEN.out z1)
            have HF := Lib.hid hr
            clear hr z1
            go_wp2_with fail
            go_ret
            exact ⟨by rw [HF.out]; rfl, hT.bel⟩
          · have a1 := decide_eq_false a1; have a2 := decide_eq_true a2
            have hr : R = 110 := HRR.out.symm.trans (fchk_sec HLEN.out z1)
            have HF := Lib.hid hr
            clear hr z1
            go_wp2_with fail
            go_ret
            exact ⟨by rw [HF.out]; rfl, hT.bel⟩
          · have a1 := decide_eq_false a1; have a2 := decide_eq_false a2
            rcases rng3 office 0 24 with ⟨a3, z2⟩ | ⟨a3, a4, z2⟩ | ⟨a3, a4, z2⟩
            · have a3 := decide_eq_true a3
              have hr : R = 1 := HRR.out.symm.trans (fchk_off HLEN.out z1 z2)
              have HF := Lib.hid hr
              clear hr z1 z2
              go_wp2_with fail
              go_ret
              exact ⟨by rw [HF.out]; rfl, hT.bel⟩
            · have a3 := decide_eq_false a3; have a4 := decide_eq_true a4
              have hr : R = 1 := HRR.out.symm.trans (fchk_off HLEN.out z1 z2)
              have HF := Lib.hid hr
              clear hr z1 z2
              go_wp2_with fail
              go_ret
              exact ⟨by rw [HF.out]; rfl, hT.bel⟩
            · have a3 := decide_eq_false a3; have a4 := decide_eq_false a4
              rcases rng3' people 0 1024 with ⟨a5, z3⟩ | ⟨a5, a6, z3⟩ | ⟨a5, a6, z3⟩
              · have a5 := decide_eq_true a5
                have hr : R = 1 := HRR.out.symm.trans (fchk_ppl HLEN.out z1 z2 z3)
                have HF := Lib.hid hr
                clear hr z1 z2 z3
                go_wp2_with fail
                go_ret
                exact ⟨by rw [HF.out]; rfl, hT.bel⟩
              · have a5 := decide_eq_false a5; have a6 := decide_eq_true a6
                have hr : R = 1 := HRR.out.symm.trans (fchk_ppl HLEN.out z1 z2 z3)
                have HF := Lib.hid hr
                clear hr z1 z2 z3
                go_wp2_with fail
                go_ret
                exact ⟨by rw [HF.out]; rfl, hT.bel⟩
              · have a5 := decide_eq_false a5; have a6 := decide_eq_false a6
                have hr : R = 0 := HRR.out.symm.trans (fchk_ok HLEN.out z1 z2 z3)
                have HF := Lib.hid hr
                clear hr z1 z2 z3
                go_wp2_with fail
                go_ret
                exact ⟨by rw [HF.out]; rfl, hT.bel⟩
    · have hb0 : ((keys.length : Int) == l.length) = false := beq_eq_false_iff_ne.2 hlen
      have hr := fchk_len (kb := keys.all vld) (s := s) (p := people) (o := office) hlen
      have HR := Lib.hid hr
      clear hr hlen
      go_enter Tryz.func44, Tryz.ntmps44
      go_wp2_with (go_at_call 20; (with_reducible refine (TT.out _ hT.bel).mono ?_); rintro e X ⟨rfl, hb⟩; replace hT := hT.below hb; clear hb t0 t1; obtain ⟨t0, t1⟩ := hT.cells)
      go_ret
      exact ⟨by rw [HR.out]; rfl, hT.bel⟩
  · rw [if_pos ht]
    obtain ⟨E, hE⟩ : ∃ E, ttE l n = E := ⟨_, rfl⟩
    rw [hE] at htt ht ⊢
    have TT := Lib.hid htt
    have z : (E == 0) = false := beq_eq_false_iff_ne.2 ht
    clear htt hE hcap ht
    go_enter Tryz.func44, Tryz.ntmps44
    go_wp2_with (go_at_call 20; (with_reducible refine (TT.out _ hT.bel).mono ?_); rintro e X ⟨rfl, hb⟩; replace hT := hT.below hb; clear hb t0 t1; obtain ⟨t0, t1⟩ := hT.cells)
    go_ret
    exact ⟨rfl, hT.bel⟩
end Go.Proofs.YthckledagggoiaaGreatDoor
