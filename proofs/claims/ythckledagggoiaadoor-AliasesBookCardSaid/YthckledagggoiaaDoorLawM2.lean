import Derived.Test.YthckledagggoiaaDoorAsL2
import Derived.Deep.QuietTactic
import Derived.BigQuiet
import Derived.Laws.NewBlocks
set_option linter.unusedSimpArgs false
set_option linter.unusedVariables false
namespace Go.Proofs.YthckledagggoiaaDoor
open Go.RowKit Go.MapKept Go.Shelf Fk Sha
/-! AliasesBook -/
theorem infoBo : (Tryd.prog.info? 4).map (fun i => (i.zero, i.size, i.bytes)) = some (some (.bool false), 1, 1) := by kernel_rfl
def marks (D : Nat → Bool) (n : Nat) : List Value := (List.range n).map fun q => Value.bool (D q)
theorem marks_get (D : Nat → Bool) {n k : Nat} (h : k < n) : (marks D n)[k]? = some (.bool (D k)) := by
  unfold marks
  rw [List.getElem?_map, List.getElem?_range h]; rfl
theorem marks_set (D : Nat → Bool) {n k : Nat} (h : k < n) : (marks D n).set k (.bool true) = marks (fun q => if q = k then true else D q) n := by
  refine List.ext_getElem? fun i => ?_
  rw [List.getElem?_set]
  by_cases hi : i < n
  · rw [marks_get _ hi, marks_get _ hi]
    by_cases hik : k = i
    · subst hik; rw [if_pos rfl, if_pos (by unfold marks; simpa using h)]; simp
    · rw [if_neg hik, if_neg (fun e => hik e.symm)]
  · have h1 : ∀ D : Nat → Bool, (marks D n)[i]? = none := fun D => by unfold marks; rw [List.getElem?_eq_none]; simp; omega
    rw [h1, h1]
    by_cases hik : k = i
    · omega
    · rw [if_neg hik]
set_option maxRecDepth 100000 in
theorem make_bools (n : Nat) (hn : n ≤ 1000000) (w : World) : (Instr.makeSlice 43 (.int .i64 (n : Int)) (.int .i64 (n : Int))).run Tryd.prog w = .ok (.slice (some ⟨w.heap.size, 0, none⟩) n n) (w.alloc (.cells (marks (fun _ => false) n).toArray 4)) := by
  obtain ⟨i0, hi, hz0, hz1, hz2⟩ := info_parts infoBo
  have hr := run_make (P := Tryd.prog) w 43 4 i0 (.bool false) Tryd.underlying43 hi hz0 .i64 .i64 (n : Int) (n : Int) (by omega) (by omega) (by rw [hz2]; omega) (by omega)
  simp only [Int.toNat_natCast, hz1, Nat.mul_one] at hr
  have e : madeCells (Value.bool false).cells n = (marks (fun _ => false) n).toArray := by
    apply Array.ext'
    refine (toList_madeCells_one (Value.bool false) n).trans ?_
    unfold marks
    rw [List.map_const', List.length_range]
  rw [hr, e]
set_option maxRecDepth 100000 in
set_option maxHeartbeats 4000000 in
theorem aliasesBook_early (s : Int) (A : Option Addr) (q c : Nat) (n o day time : Int) (w : World) (hT : TabOK w) (h : fewB q n = false) :
    Calls Tryd.prog 4 #[.int .i64 s, .slice A q c, .int .i64 n, .int .i64 o, .int .i64 day, .int .i64 time] w fun e w' => e = .returned (.bool true) ∧ Below w.heap.size w w' := by
  have c1 := sane35_any w hT
  have f1 := fun W => few35_any A q c n W
  rw [h] at f1
  have C1 := Lib.hid c1
  have F1 := Lib.hid f1
  clear c1 f1 h hT
  go_enter Tryd.func4, Tryd.ntmps4
  go_wp2_with (first
    | (go_at_call 7; (with_reducible refine (C1.out).mono ?_); rintro e X0 ⟨rfl, hB⟩)
    | (go_at_call 13; (with_reducible refine (F1.out _).mono ?_); rintro e Y ⟨rfl, rfl⟩))
  go_ret
  exact ⟨rfl, hB⟩
set_option maxRecDepth 100000 in
set_option maxHeartbeats 4000000 in
theorem aliasesBook_err (s : Int) (l : List En) (A : Option Addr) (c : Nat) (n o day time : Int) (w : World) (hT : TabOK w) (hl : SlE w w.heap.size (.slice A l.length c) l) (h : fewB l.length n = true) (he : bookE s l n o day time ≠ 0) :
    Calls Tryd.prog 4 #[.int .i64 s, .slice A l.length c, .int .i64 n, .int .i64 o, .int .i64 day, .int .i64 time] w fun e w' => e = .returned (.bool true) ∧ Below w.heap.size w w' := by
  have c1 := sane35_any w hT
  have f1 := fun W => few35_any A l.length c n W
  rw [h] at f1
  have b1 := fun (W : World) (hb : Below w.heap.size w W) => book_any s l (.slice A l.length c) n o day time W (hT.below hb) ((hl.below hb).mono hb.size)
  have x1 : bookL s l n o day time = [] := by unfold bookL; rw [if_neg he]
  rw [x1] at b1
  obtain ⟨E, hE⟩ : ∃ E, bookE s l n o day time = E := ⟨_, rfl⟩
  rw [hE] at b1 he
  have z1 : (E != 0) = true := bne_iff_ne.2 he
  have C1 := Lib.hid c1
  have F1 := Lib.hid f1
  have B1 := Lib.hid b1
  clear c1 f1 b1 x1 hE he h hT hl
  go_enter Tryd.func4, Tryd.ntmps4
  go_wp2_with (first
    | (go_at_call 7; (with_reducible refine (C1.out).mono ?_); rintro e X0 ⟨rfl, hB⟩)
    | (go_at_call 13; (with_reducible refine (F1.out _).mono ?_); rintro e Y ⟨rfl, rfl⟩)
    | (go_at_call 14; (with_reducible refine (B1.out _ hB).mono ?_); rintro e Z1 ⟨x1, rfl, hx1, hb⟩; obtain ⟨_, D1, d1, rfl, _⟩ := hx1; replace hB := hB.trans (hb.mono hB.size); clear hb))
  go_ret
  exact ⟨rfl, hB⟩
set_option maxRecDepth 100000 in
set_option maxHeartbeats 8000000 in
theorem aliasesBook_good (s : Int) (l : List En) (A : Option Addr) (c : Nat) (n : Nat) (o day time : Int) (w : World) (hT : TabOK w) (hl : SlE w w.heap.size (.slice A l.length c) l) (hn : n ≤ 12) (h : fewB l.length (n : Int) = true) (he : bookE s l n o day time = 0) :
    Calls Tryd.prog 4 #[.int .i64 s, .slice A l.length c, .int .i64 n, .int .i64 o, .int .i64 day, .int .i64 time] w fun e w' => e = .returned (.bool true) ∧ Below w.heap.size w w' := by
  have c1 := sane35_any w hT
  have f1 := fun W => few35_any A l.length c n W
  rw [h] at f1
  have b1 := fun (W : World) (hb : Below w.heap.size w W) => book_any s l (.slice A l.length c) n o day time W (hT.below hb) ((hl.below hb).mono hb.size)
  have x1 : bookL s l n o day time = sortU (bookA s o (livK l o day time n)) := by unfold bookL; rw [if_pos he, Int.toNat_natCast]
  rw [x1, he] at b1
  have hck : ckE s o (manyP n) = 0 := by
    unfold bookE at he
    by_cases hc : ckE s o (manyP n) = 0
    · exact hc
    · rw [if_neg hc] at he; exact absurd he hc
  have hst : stE l day time = 0 := by unfold bookE at he; rw [if_pos hck] at he; exact he
  obtain ⟨k1, k2, k3⟩ := ckE_0 hck
  have l1 := fun (W : World) (hb : Below w.heap.size w W) => lawliving_any l (.slice A l.length c) n o day time W (by omega) ((hl.below hb).mono hb.size) hst
  have hLb : ∀ p, p ∈ livK l o day time n → 0 ≤ p ∧ p < 13 := fun p hp => by have := livK_bd hp; omega
  have hLl : (livK l o day time n).length ≤ 12 := Nat.le_trans (livK_len _ _ _ _ _) hn
  obtain ⟨LV, hLV⟩ : ∃ L, livK l o day time n = L := ⟨_, rfl⟩
  rw [hLV] at b1 l1 hLb hLl
  have a1 := fun (i : Nat) (hi : i < LV.length) (W : World) (hb : Below w.heap.size w W) => by
    have hp := hLb (LV.getD i default) (by rw [List.getD_eq_getElem?_getD, List.getElem?_eq_getElem hi]; exact List.getElem_mem hi)
    have hid : idP (LV.getD i default) = true := by unfold idP; simp only [Bool.and_eq_true, decide_eq_true_eq]; omega
    have hc0 : ckE s o true = 0 := by rw [k2] at hck; exact hck
    have := alias_any s (LV.getD i default) o W (hT.below hb)
    rw [show aliasA s (LV.getD i default) o = aliasN s (LV.getD i default) o from by unfold aliasA; rw [hid, if_pos hc0], hid, hc0] at this
    exact this
  have hxl : (sortU (bookA s o LV)).length ≤ LV.length := by have := sortU_len (bookA s o LV); unfold bookA at this ⊢; rw [List.length_map] at this; exact this
  have hmem : ∀ z, z ∈ sortU (bookA s o LV) ↔ z ∈ bookA s o LV := fun z => sortU_mem z _
  have hlt := sortU_lt (bookA s o LV)
  obtain ⟨X, hX⟩ : ∃ X, sortU (bookA s o LV) = X := ⟨_, rfl⟩
  rw [hX] at b1 hxl hmem hlt
  have hmk := make_bools X.length (by omega)
  have C1 := Lib.hid c1
  have F1 := Lib.hid f1
  have B1 := Lib.hid b1
  have L1 := Lib.hid l1
  have A1 := Lib.hid a1
  have HM := Lib.hid hmem
  have HLT := Lib.hid hlt
  have t1 : ¬ LV.length < X.length := by omega
  have t2 : decide ((LV.length : Int) < X.length) = false := decide_eq_false (by omega)
  have HXL := Lib.hid (show X.length ≤ 12 by omega)
  have HLL := Lib.hid hLl
  have t3 : ¬ (n : Int) < 0 := by omega
  clear c1 f1 b1 l1 a1 hmem hlt hxl hX hLb hLl hLV hck hst k1 k2 k3 x1 he h hT hl
  go_enter Tryd.func4, Tryd.ntmps4
  go_upto_region 12 with (first
    | (go_at_call 7; (with_reducible refine (C1.out).mono ?_); rintro e X0 ⟨rfl, hB⟩)
    | (go_at_call 13; (with_reducible refine (F1.out _).mono ?_); rintro e Y ⟨rfl, rfl⟩)
    | (go_at_call 14; (with_reducible refine (B1.out _ hB).mono ?_); rintro e Z1 ⟨x1, rfl, hx1, hb⟩; obtain ⟨hX1, D1, d1, rfl, hX2⟩ := hx1; replace hB := hB.trans (hb.mono hB.size); clear hb)
    | (go_at_call 15; (with_reducible refine (L1.out _ hB).mono ?_); rintro e Z2 ⟨u1, rfl, hu1, hb2⟩; obtain ⟨hU1, D2, d2, rfl, hU2⟩ := hu1; replace hB := hB.trans (hb2.mono hB.size)))
  have hx1 : SlI Z1 Z1.heap.size (.slice D1 X.length d1) X := ⟨hX1, D1, d1, rfl, hX2⟩
  have hu1 : SlI Z2 Z2.heap.size (.slice D2 LV.length d2) LV := ⟨hU1, D2, d2, rfl, hU2⟩
  have HX := Lib.hid ((hx1.below hb2).mono hb2.size)
  have HU := Lib.hid hu1
  clear hx1 hu1 hX1 hX2 hU1 hU2 hb2
  obtain ⟨bm, hbm⟩ : ∃ bm, Z2.heap.size = bm := ⟨_, rfl⟩
  have hR0 : Row (Z2.alloc (.cells (marks (fun _ => false) X.length).toArray 4)) Z2.heap.size 4 (marks (fun _ => false) X.length) := Row.new Z2 _ _
  have hB0 := hB.alloc hB.size (.cells (marks (fun _ => false) X.length).toArray 4)
  have hZ0 := below_alloc' Z2 (.cells (marks (fun _ => false) X.length).toArray 4)
  have hsB := hB.size
  rw [hbm] at hR0
  have HBM := Lib.hid hbm
  clear hmk t1 t2 t3 hB
  go_wp2
  clear hbm
  go_loopg [18] LV.length (fun g iv wr => Below w.heap.size w wr ∧ Below Z2.heap.size Z2 wr ∧ ∃ (i : Nat) (D : Nat → Bool), iv = .int .i64 i ∧ i + g = LV.length ∧ Row wr bm 4 (marks D X.length) ∧ ∀ q, q < X.length → D q = decide (X.getD q default ∈ bookA s o (LV.take i)))
  case atStart => exact ⟨hB0, hZ0, 0, _, rfl, by omega, hR0, fun q hq => by simp [bookA]⟩
  case round =>
    clear hR0 hB0 hZ0
    obtain ⟨hBr, hZr, i, D, rfl, hig, hRr, hD⟩ := hrel
    by_cases hlt : i < LV.length
    · have ha := A1.out i hlt wr hBr
      obtain ⟨_, A', c', hv1, hE⟩ := HU.out.below hZr
      obtain ⟨b1, o1, rfl, hb1, hE⟩ := hE (by omega)
      cases hv1
      have d1 := hE.int hlt
      obtain ⟨p, hp⟩ : ∃ p, LV.getD i default = p := ⟨_, rfl⟩
      have htk : bookA s o (LV.take (i + 1)) = bookA s o (LV.take i) ++ [aliasN s p o] := by
        have e : LV.take (i + 1) = LV.take i ++ [LV.getD i default] := by rw [List.take_add_one, List.getD_eq_getElem?_getD, List.getElem?_eq_getElem hlt]; rfl
        unfold bookA
        rw [e, hp, List.map_append]; rfl
      have hax : aliasN s p o ∈ X := (HM.out _).2 (by
        unfold bookA
        refine List.mem_map.2 ⟨p, ?_, rfl⟩
        rw [← hp, List.getD_eq_getElem?_getD, List.getElem?_eq_getElem hlt]; exact List.getElem_mem hlt)
      rw [hp] at ha d1
      obtain ⟨a, haa⟩ : ∃ a, aliasN s p o = a := ⟨_, rfl⟩
      rw [haa] at ha htk hax
      have HAL := Lib.hid ha
      have HTK := Lib.hid htk
      have HAX := Lib.hid hax
      have HD := Lib.hid hD
      have s1 : (0 : Int) ≤ (i : Int) := by omega
      have s2 : (i : Int) < LV.length := by omega
      have hll := HLL.out
      clear ha htk hax hD hE hp haa
      go_wp2_with (go_at_call 8; (with_reducible refine HAL.out.mono ?_); rintro e Z5 ⟨rfl, hb5⟩)
      have hR5 := hRr.below hb5 hRr.lt
      have hB5 := hBr.trans (hb5.mono hBr.size)
      have hZ5 := hZr.trans (hb5.mono hZr.size)
      obtain ⟨G0, rfl⟩ : ∃ G0 : Nat, G0 = gk := ⟨_, rfl⟩
      clear hRr hBr hZr hb5 s1 s2 d1 HAL
      go_loopg [21, 22] X.length (fun g fv iv wr => Below w.heap.size w wr ∧ Below Z2.heap.size Z2 wr ∧ ∃ (k : Nat) (D' : Nat → Bool), iv = .int .i64 k ∧ k + g = X.length ∧ Row wr bm 4 (marks D' X.length) ∧ fv = .bool (decide (a ∈ X.take k)) ∧ ∀ q, q < X.length → D' q = (D q || (decide (q < k) && decide (X.getD q default = a))))
      case atStart => exact ⟨hB5, hZ5, 0, D, rfl, by omega, hR5, by simp, fun q hq => by simp⟩
      case round =>
        clear hR5 hB5 hZ5
        obtain ⟨hBi, hZi, k, D', rfl, hkg, hRi, rfl, hD'⟩ := hrel
        by_cases hlk : k < X.length
        · obtain ⟨_, A3, c3, hv2, hE2⟩ := HX.out.below hZi
          obtain ⟨b2, o2, rfl, hb2, hE2⟩ := hE2 (by omega)
          cases hv2
          have d2 := hE2.int hlk
          have htk2 : X.take (k + 1) = X.take k ++ [X.getD k default] := by rw [List.take_add_one, List.getD_eq_getElem?_getD, List.getElem?_eq_getElem hlk]; rfl
          obtain ⟨y, hy⟩ : ∃ y, X.getD k default = y := ⟨_, rfl⟩
          rw [hy] at d2 htk2
          have HY := Lib.hid hy
          have HT2 := Lib.hid htk2
          have HD' := Lib.hid hD'
          have s1 : (0 : Int) ≤ (k : Int) := by omega
          have s2 : (k : Int) < X.length := by omega
          have hxl := HXL.out
          clear hE2 hy htk2 hD'
          by_cases hya : y = a
          · have z1 : (y == a) = true := by rw [hya]; exact beq_self_eq_true a
            have hRs := hRi.store k (.bool true)
            rw [marks_set D' hlk] at hRs
            have hBs := hBi.setCell (p := ⟨bm, k, none⟩) (by simp only []; have := HBM.out; omega) (.bool true)
            have hZs := hZi.setCell (p := ⟨bm, k, none⟩) (by simp only []; have := HBM.out; omega) (.bool true)
            have cM := (hRi.cell k).trans (marks_get D' hlk)
            have ff := Row.frozen hRi
            have HYA := Lib.hid hya
            have HRS := Lib.hid hRs
            have HBS := Lib.hid hBs
            have HZS := Lib.hid hZs
            clear hya hRs hBs hZs hBi hZi hRi
            go_wp2
            go_roundg (gk - 1)
            case measure => omega
            case rel =>
              refine ⟨HBS.out, HZS.out, k + 1, _, by go_num, by omega, HRS.out, by rw [HT2.out, HYA.out]; simp, fun q hq => ?_⟩
              by_cases hqk : q = k
              · subst hqk
                rw [if_pos rfl, HY.out, HYA.out]; simp
              · rw [if_neg hqk, HD'.out q hq]
                congr 2
                rw [decide_eq_decide]; omega
          · have z1 : (y == a) = false := beq_eq_false_iff_ne.2 hya
            have HYA := Lib.hid hya
            clear hya
            go_wp2
            go_roundg (gk - 1)
            case measure => omega
            case rel =>
              refine ⟨hBi, hZi, k + 1, D', by go_num, by omega, hRi, ?_, fun q hq => ?_⟩
              · rw [HT2.out]
                congr 1
                rw [decide_eq_decide, List.mem_append, List.mem_singleton]
                exact ⟨.inl, fun h => h.resolve_right (fun e => HYA.out e.symm)⟩
              · rw [HD'.out q hq]
                congr 1
                by_cases hqk : q = k
                · subst hqk
                  rw [HY.out, decide_eq_false HYA.out, Bool.and_false, Bool.and_false]
                · congr 1
                  rw [decide_eq_decide]; omega
        · obtain rfl : k = X.length := by omega
          have hmt : decide (a ∈ X.take X.length) = true := by rw [List.take_length]; exact decide_eq_true HAX.out
          rw [hmt]
          have HD' := Lib.hid hD'
          clear hmt hD'
          go_wp2
          go_roundg (G0 - 1)
          case measure => omega
          case rel =>
            refine ⟨hBi, hZi, i + 1, D', by go_num, by omega, hRi, fun q hq => ?_⟩
            rw [HD'.out q hq, HD.out q hq, HTK.out, decide_eq_true hq, Bool.true_and, Bool.eq_iff_iff]
            simp only [decide_eq_true_eq, Bool.or_eq_true, List.mem_append, List.mem_singleton]
    · obtain rfl : i = LV.length := by omega
      have hD2 : ∀ q, q < X.length → D q = true := fun q hq => by
        rw [hD q hq, List.take_length, decide_eq_true_eq]
        exact (HM.out _).1 (by rw [List.getD_eq_getElem?_getD, List.getElem?_eq_getElem hq]; exact List.getElem_mem hq)
      have HD2 := Lib.hid hD2
      clear hD hD2
      go_wp2
      go_loopg [23] X.length (fun g iv wr => Below w.heap.size w wr ∧ Below Z2.heap.size Z2 wr ∧ ∃ k : Nat, iv = .int .i64 k ∧ k + g = X.length ∧ Row wr bm 4 (marks D X.length))
      case atStart => exact ⟨hBr, hZr, 0, rfl, by omega, hRr⟩
      case round =>
        clear hBr hZr hRr
        obtain ⟨hBi, hZi, k, rfl, hkg, hRi⟩ := hrel
        by_cases hlk : k < X.length
        · obtain ⟨_, A3, c3, hv2, hE2⟩ := HX.out.below hZi
          obtain ⟨b2, o2, rfl, hb2, hE2⟩ := hE2 (by omega)
          cases hv2
          have d2 := hE2.int hlk
          have cM := (hRi.cell k).trans (marks_get D hlk)
          rw [HD2.out k hlk] at cM
          have s1 : (0 : Int) ≤ (k : Int) := by omega
          have s2 : (k : Int) < X.length := by omega
          have s3 : ((k : Int)).toNat = k := by omega
          have hxl := HXL.out
          rcases Nat.eq_zero_or_pos k with hk0 | hk0
          · subst hk0
            clear hE2 s1 s2
            go_wp2
            go_quiet (fail)
            go_wp2
            go_roundg (gk - 1)
            case measure => omega
            case rel => exact ⟨by first | exact hBi | exact below_drewN hBi _, by first | exact hZi | exact below_drewN hZi _, 1, by first | rfl | go_num, by omega, by first | exact hRi | exact Row.keep hRi rfl⟩
          · obtain ⟨k', rfl⟩ : ∃ k', k = k' + 1 := ⟨k - 1, by omega⟩
            have d3 := hE2.int (i := k') (by omega)
            have hlt2 := HLT.out
            have hxx : ¬ X.getD (k' + 1) default ≤ X.getD k' default := by
              have h5 := List.pairwise_iff_getElem.1 hlt2 k' (k' + 1) (by omega) hlk (by omega)
              rw [List.getD_eq_getElem?_getD, List.getD_eq_getElem?_getD, List.getElem?_eq_getElem hlk, List.getElem?_eq_getElem (show k' < X.length by omega)]
              simp only [Option.getD_some]; omega
            obtain ⟨x1, hx1⟩ : ∃ x, X.getD (k' + 1) default = x := ⟨_, rfl⟩
            obtain ⟨x0, hx0⟩ : ∃ x, X.getD k' default = x := ⟨_, rfl⟩
            rw [hx1] at d2 hxx
            rw [hx0] at d3 hxx
            have z1 : decide (x1 ≤ x0) = false := decide_eq_false hxx
            have s5 : (((k' + 1 : Nat) : Int)) - 1 = (k' : Int) := by omega
            have s6 : (0 : Int) ≤ (k' : Int) := by omega
            have s7 : (k' : Int) < X.length := by omega
            have s8 : ((k' : Int)).toNat = k' := by omega
            have s9 : (0 : Int) < ((k' + 1 : Nat) : Int) := by omega
            clear hE2 hx1 hx0 hlt2 hk0
            go_wp2
            go_quiet (fail)
            clear s1 s2 s3 s5 s6 s7 s8 s9
            go_wp2
            go_roundg (gk - 1)
            case measure => omega
            case rel => exact ⟨by first | exact hBi | exact below_drewN hBi _, by first | exact hZi | exact below_drewN hZi _, k' + 2, by first | rfl | go_num, by omega, by first | exact hRi | exact Row.keep hRi rfl⟩
        · go_wp2
          go_ret
          exact ⟨rfl, hBi⟩
theorem aliasesBook_walk (s : Int) (l : List En) (v : Value) (n o day time : Int) (w : World) (hT : Tab w) (hz : 1 < w.heap.size ∧ 0 < w.heap.size) (h1 : SlE w w.heap.size v l)
    (_ : (Lit.int .i64 s).wf = true) (_ : True) (_ : (Lit.int .i64 n).wf = true) (_ : (Lit.int .i64 o).wf = true) (_ : (Lit.int .i64 day).wf = true) (_ : (Lit.int .i64 time).wf = true) :
    Calls Tryd.prog 4 #[.int .i64 s, v, .int .i64 n, .int .i64 o, .int .i64 day, .int .i64 time] w fun e w' => e = .returned (.bool true) ∧ Below w.heap.size w w' := by
  have g1 := h1
  obtain ⟨_, A, c, rfl, _⟩ := h1
  by_cases hf : fewB l.length n = true
  · by_cases he : bookE s l n o day time = 0
    · have hc : ckE s o (manyP n) = 0 := by
        unfold bookE at he
        by_cases hc : ckE s o (manyP n) = 0
        · exact hc
        · rw [if_neg hc] at he; exact absurd he hc
      obtain ⟨_, h2, _⟩ := ckE_0 hc
      unfold manyP at h2
      simp only [Bool.and_eq_true, decide_eq_true_eq] at h2
      have hn : n ≤ 12 := by
        unfold fewB at hf
        simp only [Bool.and_eq_true, Bool.or_eq_true, decide_eq_true_eq] at hf
        omega
      obtain ⟨N, rfl⟩ : ∃ N : Nat, n = (N : Int) := ⟨n.toNat, by omega⟩
      exact aliasesBook_good s l A c N o day time w ⟨hT, hz⟩ g1 (by omega) hf he
    · exact aliasesBook_err s l A c n o day time w ⟨hT, hz⟩ g1 hf he
  · exact aliasesBook_early s A _ c n o day time w ⟨hT, hz⟩ (by simpa using hf)
end Go.Proofs.YthckledagggoiaaDoor
