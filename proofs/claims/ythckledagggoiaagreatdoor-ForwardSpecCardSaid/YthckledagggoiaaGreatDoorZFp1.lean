import Derived.Test.YthckledagggoiaaGreatDoorZMu
import Derived.Test.YthckledagggoiaaGreatDoorZFs6
set_option linter.unusedSimpArgs false
set_option linter.unusedVariables false
namespace Go.Proofs.YthckledagggoiaaGreatDoor
open Go.RowKit Go.Shelf Fk Sha
/-! The reference's return addresses. -/
set_option maxRecDepth 100000 in
set_option maxHeartbeats 4000000 in
theorem rtag_any (line key a b : Int) (hs : smallI [line, key, a, b]) (ds : List Value) (hd : ds.length = 32) (w : World) :
    Calls Tryz.prog 104 #[.agg (retC line key a b ds).toArray] w fun e w' => e = .returned (.agg ((tagN line key a b).map bv).toArray) ∧ Below w.heap.size w w' := by
  have r0 := (Row.new w 36 (retC line key a b ds)).alloc (.cells zero32.toArray 34)
  have r1 := Row.new (w.alloc (.cells (retC line key a b ds).toArray 36)) 34 zero32
  rw [World.size_alloc] at r1
  have hB := (below_alloc' w (.cells (retC line key a b ds).toArray 36)).alloc (by simp) (.cells zero32.toArray 34)
  have hlen36 := retC_len (line := line) (key := key) (a := a) (b := b) hd
  have g0 : (retC line key a b ds)[0]? = some (.int .i64 line) := rfl
  have g1 : (retC line key a b ds)[1]? = some (.int .i64 key) := rfl
  have g2 : (retC line key a b ds)[2]? = some (.int .i64 a) := rfl
  have g3 : (retC line key a b ds)[3]? = some (.int .i64 b) := rfl
  obtain ⟨RC, hRC⟩ : ∃ RC, retC line key a b ds = RC := ⟨_, rfl⟩
  rw [hRC] at r0 r1 hB hlen36 g0 g1 g2 g3 ⊢
  have hlr : RC.toArray.size = 36 := by simpa using hlen36
  clear hRC hd
  go_enter Tryz.func104, Tryz.ntmps104
  go_upto_region 1 with fail
  obtain ⟨W, hW⟩ : ∃ W, (w.alloc (.cells RC.toArray 36)).alloc (.cells zero32.toArray 34) = W := ⟨_, rfl⟩
  replace r0 : Row W w.heap.size 36 RC := hW ▸ r0
  replace r1 : Row W (w.heap.size + 1) 34 zero32 := hW ▸ r1
  rw [hW] at hB
  refine (show _ = W from hW) ▸ ?_
  clear hW
  have k0 := (r0.cell 0).trans g0
  have k1 := (r0.cell 1).trans g1
  have k2 := (r0.cell 2).trans g2
  have k3 := (r0.cell 3).trans g3
  have hsl := sl_newI W [line, key, a, b] #[.int .i64 line, .int .i64 key, .int .i64 a, .int .i64 b] rfl (by simp) 4 rfl
  have hi := refints_any [line, key, a, b] _ _ hsl (by simp)
  have hen : ∀ (A : Option Addr) (c : Nat) (W : World), SlV W W.heap.size (.slice A 4 c) [line, key, a, b] → Calls Tryz.prog 120 #[.agg #[.int .i64 3, .int .i64 0, .string ⟨#[]⟩, .slice A 4 c]] W fun e w' => ∃ v, e = .returned (.tuple #[v, .int .i64 0]) ∧ ownR W.heap.size w' v (encL [line, key, a, b]) ∧ Below W.heap.size W w' := fun A c W h => refEncode_list [line, key, a, b] A c W h hs (by simp)
  have hB1 := hB.alloc hB.size (.cells #[.int .i64 line, .int .i64 key, .int .i64 a, .int .i64 b] 3)
  have r2 := r1.alloc (.cells #[.int .i64 line, .int .i64 key, .int .i64 a, .int .i64 b] 3)
  have hlen := encL_len hs (by simp)
  have hL2 := tagN_len line key a b
  have hc : tagN line key a b = tagged (sb returnB) (encL [line, key, a, b]) := rfl
  obtain ⟨L, hL⟩ : ∃ L, encL [line, key, a, b] = L := ⟨_, rfl⟩
  rw [hL] at hen hlen hc
  obtain ⟨D, hD⟩ : ∃ D, tagN line key a b = D := ⟨_, rfl⟩
  rw [hD] at hc hL2
  have hh := fun v W h1 h2 => reftagged_any ⟨#[114, 101, 116, 117, 114, 110]⟩ L v W h1 h2 (by omega) (by decide)
  rw [← hc] at hh
  have HI := Lib.hid hi
  have HE := Lib.hid hen
  have HH := Lib.hid hh
  have HL := Lib.hid hlen
  have HL2 := Lib.hid hL2
  have HD := Lib.hid hD
  clear hi hen hh hlen hL2 hc hL hD hs r0 g0 g1 g2 g3 hlen36 hlr hsl r1 hB
  go_wp2_with (first
    | (go_at_call 121; (with_reducible refine HI.out.mono ?_); rintro e w0 ⟨A1, k1', rfl, hv1, hb⟩; replace hB1 := hB1.trans (hb.mono hB1.size); replace r2 := r2.below hb r2.lt; clear hb)
    | (go_at_call 120; (with_reducible refine (HE.out _ _ _ hv1).mono ?_); rintro e w1 ⟨v1, rfl, ho, hb⟩; have hB2 := hB1.trans (hb.mono hB1.size); have r3 := r2.below hb r2.lt; obtain ⟨q1, q2⟩ := own_slB ho rfl (by have := HL.out; omega); clear hB1 r2 hb ho)
    | (go_at_call 139; (with_reducible refine (HH.out _ _ q1 q2).mono ?_); rintro e w2 ⟨rfl, hb2⟩; have r4 := r3.below hb2 r3.lt; have hB3 := hB2.trans (hb2.mono hB2.size); have hst := store_old D HL2.out r4; have hR6 : Row (w2.setRow (w.heap.size + 1) (D.map bv).toArray) (w.heap.size + 1) 34 (D.map bv) := setRow_heap w2 _ _ _ _ _ r4; have hB7 := below_setRow hB3 (Nat.le_succ w.heap.size) (D.map bv).toArray; generalize w2.setRow (w.heap.size + 1) (D.map bv).toArray = W7 at *; have HR6 := Lib.hid hR6; have HB6 := Lib.hid hB7; clear hR6 hB7 r3 r4 hB3 hB2 hb2))
  have hinf : (Tryz.prog.info? 34).map (·.size) = some 32 := by kernel_rfl
  exact bodyPost_ret (v := .agg (D.map bv).toArray) (results_cell_row (g := w.heap.size + 1) (t := 34) (fr := (0, 0)) rfl _ _ _ _ rfl HR6.out Tryz.underlying34 rfl (by rw [hinf]; simp [HL2.out])) rfl ⟨by rw [HD.out], HB6.out⟩
theorem infoCi : (Tryz.prog.info? 32).map (·.size) = some 2 := by kernel_rfl
set_option maxRecDepth 100000 in
set_option maxHeartbeats 2000000 in
theorem rcipher_any (key el r : Int) (w : World) :
    Calls Tryz.prog 103 #[.int .i64 key, .int .i64 el, .int .i64 r] w fun e w' => e = .returned (.agg #[.int .i64 (powC 4 r), .int .i64 (mulC el (powC key r))]) ∧ Below w.heap.size w w' := by
  have hp := fun W => refpow_any 4 r W
  have hq := fun W => refpow_any key r W
  have hm := fun W => refmul_any el (powC key r) W
  obtain ⟨x, hx⟩ : ∃ x, powC 4 r = x := ⟨_, rfl⟩
  obtain ⟨y, hy⟩ : ∃ x, mulC el (powC key r) = x := ⟨_, rfl⟩
  obtain ⟨z, hz⟩ : ∃ x, powC key r = x := ⟨_, rfl⟩
  rw [hy] at hm ⊢
  rw [hz] at hm hq
  rw [hx] at hp ⊢
  have HP := Lib.hid hp
  have HQ := Lib.hid hq
  have HM := Lib.hid hm
  clear hp hq hm hx hy hz
  go_enter Tryz.func103, Tryz.ntmps103
  go_wp2_with (first
    | (go_at_call 123; (first | (with_reducible refine (HP.out _).mono ?_) | (with_reducible refine (HQ.out _).mono ?_)); rintro e w4 ⟨rfl, rfl⟩)
    | (go_at_call 15; (with_reducible refine (HM.out _).mono ?_); rintro e w4 ⟨rfl, rfl⟩))
  exact bodyPost_ret (results_cell_row rfl _ _ w.heap.size 32 _ (0, 0) _ rfl (Row.new w 32 [.int .i64 x, .int .i64 y]) Tryz.underlying32 rfl infoCi) rfl ⟨rfl, (Below.refl _ _).alloc (Nat.le_refl _) _⟩
theorem ret_rmake (tmps : Array Value) (W : World) (g : Nat) (cs : List Value) (E : Int) (hl : cs.length = 36) (h8 : tmps[8]?.getD undef = .pointer (some ⟨g, 0, none⟩)) (h9 : tmps[9]?.getD undef = .int .i64 E) (hr : Row W g 36 cs) :
    (results Tryz.f47 tmps).run Tryz.prog W = .ok (.tuple #[.agg cs.toArray, .int .i64 E]) W := by
  have hinf : (Tryz.prog.info? 36).map (·.size) = some 36 := by kernel_rfl
  have h := run_loadVar_row (P := Tryz.prog) W g 36 36 cs.toArray (0, 0) _ hr Tryz.underlying36 rfl (by rw [hinf]; simp [hl])
  simp [results, Tryz.f47, h8, h9, asAddr, h]
theorem run_allocR (a : Act) (o : Oper) (w : World) (ho : o.op = .alloc 36) : (execOp a.eval o).run Tryz.prog w = .ok (.value (.pointer (some ⟨w.heap.size, 0, none⟩))) (w.alloc (.cells (retC 0 0 0 0 zero32).toArray 36)) := by
  unfold execOp
  simp only [ho]
  kernel_rfl
/-- a new variable of type api.Return, and what is put into it -/
theorem wpList_newR {ops : Array Oper} {rest : List Oper} {o1 o2 : Oper} {a : Act} {w : World} {Q : Exit → Act → World → Prop} (hg1 : o1.guard = none) (ho1 : o1.op = .alloc 36) (d : Tmp) (hd1 : o1.dst = some d) (hg2 : o2.guard = none) (y : Operand) (ho2 : o2.op = .store 36 (.tmp d) y) (hd2 : o2.dst = none)
    (cs : List Value) (hl : cs.length = 36) (h1 : ∀ v ∈ cs, v.oneCell' = true) (hp : (a.put (some d) (.pointer (some ⟨w.heap.size, 0, none⟩))).eval (.tmp d) = .pointer (some ⟨w.heap.size, 0, none⟩)) (hy : (a.put (some d) (.pointer (some ⟨w.heap.size, 0, none⟩))).eval y = .agg cs.toArray)
    (h : ∀ W', Row W' w.heap.size 36 cs → Below w.heap.size w W' → wpList Tryz.prog ops Q rest (a.put (some d) (.pointer (some ⟨w.heap.size, 0, none⟩))) W') : wpList Tryz.prog ops Q (o1 :: o2 :: rest) a w := by
  refine wpList_plain hg1 fun K hK => ?_
  unfold Oper.wp
  rw [run_allocR a o1 w ho1, Oper.upon_value, hd1]
  refine hK _ _ ?_
  have r0 := Row.new w 36 (retC 0 0 0 0 zero32)
  have hlz : (retC 0 0 0 0 zero32).length = 36 := rfl
  have hinf : (Tryz.prog.info? 36).map (·.size) = some 36 := by kernel_rfl
  refine wpList_store_row hg2 36 (.tmp d) y ho2 w.heap.size cs.toArray hp hy 36 (retC 0 0 0 0 zero32).toArray r0 (by rw [hinf]; simp [hl]) (by simp [hl, hlz]) (all_oneCell_toArray h1) ?_
  rw [hd2]
  exact h _ (Row.part r0 cs) (below_setRow (below_alloc' w _) (Nat.le_refl _) _)
set_option maxRecDepth 100000 in
set_option maxHeartbeats 4000000 in
theorem rmake_any (line key al r : Int) (h1 : 0 ≤ line ∧ line < 64) (hk : vld key = true) (ha : 1 ≤ al ∧ al ≤ 1073741789) (w : World) :
    Calls Tryz.prog 47 #[.int .i64 line, .int .i64 key, .int .i64 al, .int .i64 r] w fun e w' => e = .returned (.tuple #[.agg (makeC line key al r).toArray, .int .i64 0]) ∧ Below w.heap.size w w' := by
  have c1 := fun W => refvalid_any key W
  have c2 := fun W => refelement_any al W
  have hel : elE al = 0 := by unfold elE; rw [if_pos ha]
  rw [hk] at c1
  rw [hel] at c2
  have c3 := fun W => rcipher_any key (elC al) r W
  have eA : powC 4 r = makeA r := (one_mul' (vld_powC vld_4 r)).symm
  have eB : mulC (elC al) (powC key r) = makeB key al r := rfl
  rw [eA, eB] at c3
  have kb := vld_bd hk
  have kA := makeA_bd r
  have kB := makeB_bd key al r
  have hs := fun (A B : Int) (hA : 0 ≤ A ∧ A < 2147483579) (hB : 0 ≤ B ∧ B < 2147483579) => small4 (a := line) (b := key) (c := A) (d := B) (by omega) (by omega) (by omega) (by omega)
  replace hs := hs _ _ kA kB
  have hmc : makeC line key al r = retC line key (makeA r) (makeB key al r) ((tagN line key (makeA r) (makeB key al r)).map bv) := rfl
  have htl := tagN_len line key (makeA r) (makeB key al r)
  have c4 := fun (ds : List Value) (hd : ds.length = 32) (W : World) => rtag_any line key (makeA r) (makeB key al r) hs ds hd W
  obtain ⟨MA, hMA⟩ : ∃ x, makeA r = x := ⟨_, rfl⟩
  obtain ⟨MB, hMB⟩ : ∃ x, makeB key al r = x := ⟨_, rfl⟩
  obtain ⟨EL, hEL⟩ : ∃ x, elC al = x := ⟨_, rfl⟩
  rw [hMA, hMB] at c3 hmc htl c4
  rw [hEL] at c2 c3
  obtain ⟨D, hD⟩ : ∃ x, tagN line key MA MB = x := ⟨_, rfl⟩
  rw [hD] at hmc htl c4
  have hDL : (D.map bv).length = 32 := by rw [List.length_map]; exact htl
  have l0 : (retC line key MA MB zero32).length = 36 := rfl
  have l1 := retC_len (line := line) (key := key) (a := MA) (b := MB) hDL
  have hsz : (retC 0 0 0 0 zero32).toArray.size = (retC line key MA MB (D.map bv)).toArray.size := by rw [List.size_toArray, List.size_toArray, l1]; rfl
  have hinf : (Tryz.prog.info? 36).map (·.size) = some (retC line key MA MB (D.map bv)).toArray.size := by rw [List.size_toArray, l1]; kernel_rfl
  have hinfl : (Tryz.prog.info? 36).map (·.size) = some (retC line key MA MB (D.map bv)).length := by rw [l1]; kernel_rfl
  have hinf0 : (Tryz.prog.info? 36).map (·.size) = some (retC line key MA MB zero32).length := by rw [l0]; kernel_rfl
  have hput := fun (W : World) (g : Nat) (h : Row W g 36 (retC line key MA MB zero32)) => (by have hst := store_part (o := 4) (one_bv D) h (by rw [hDL]; exact Nat.le_refl _); rw [retC_put hDL] at hst; exact hst : (storeCells ⟨g, 4, none⟩ (D.map bv)).run Tryz.prog W = .ok () (W.setRow g (retC line key MA MB (D.map bv)).toArray))
  have h1c := all_oneCell_toArray (one_cells (one_bv D) line key MA MB)
  have C1 := Lib.hid c1
  have C2 := Lib.hid c2
  have C3 := Lib.hid c3
  have C4 := Lib.hid (c4 zero32 rfl)
  have HMC := Lib.hid hmc
  have HPUT := Lib.hid hput
  have HSZ := Lib.hid hsz
  have HINF := Lib.hid hinf
  have HINL := Lib.hid hinfl
  have HIN0 := Lib.hid hinf0
  have H1C := Lib.hid h1c
  have L1 := Lib.hid l1
  have HTL := Lib.hid htl
  have f1 : decide (line < 0) = false := decide_eq_false (by omega)
  have f2 : decide (64 ≤ line) = false := decide_eq_false (by omega)
  have r0 := Row.new w 36 (retC 0 0 0 0 zero32)
  have hB := below_alloc' w (.cells (retC 0 0 0 0 zero32).toArray 36)
  clear c1 c2 c3 c4 hmc htl hD hMA hMB hEL hs hk ha h1 kb kA kB eA eB hel hsz hinf hinfl hinf0 hput h1c l0 l1 hDL
  go_enter Tryz.func47, Tryz.ntmps47
  go_upto_region 1 with fail
  obtain ⟨W, hW⟩ : ∃ W, w.alloc (.cells (retC 0 0 0 0 zero32).toArray 36) = W := ⟨_, rfl⟩
  replace r0 : Row W w.heap.size 36 (retC 0 0 0 0 zero32) := hW ▸ r0
  rw [hW] at hB
  refine (show _ = W from hW) ▸ ?_
  clear hW
  go_upto_region 9 with (first
    | (go_at_call 50; (with_reducible refine (C1.out _).mono ?_); rintro e w1 ⟨rfl, rfl⟩)
    | (go_at_call 14; (with_reducible refine (C2.out _).mono ?_); rintro e w1 ⟨rfl, rfl⟩)
    | (go_at_call 103; (with_reducible refine (C3.out _).mono ?_); rintro e w1 ⟨rfl, hb⟩; replace r0 := r0.below hb r0.lt; replace hB := hB.trans (hb.mono hB.size); clear hb)
    | (refine wpList_build_at (by kernel_rfl) 36 _ rfl (retC line key MA MB zero32).toArray (by kernel_rfl) ?_)
    | (refine wpList_newR rfl rfl _ rfl rfl _ rfl rfl (retC line key MA MB zero32) rfl (one_cells one_zero line key MA MB) (by kernel_rfl) (by kernel_rfl) ?_; intro W2 r2 hb; have hlt := r0.lt; replace r0 := r0.below hb r0.lt; replace hB := hB.trans (hb.mono hB.size); clear hb))
  have hne : w.heap.size ≠ w1.heap.size := Nat.ne_of_lt hlt
  have hle := Nat.le_of_lt hlt
  have hn2 : w1.heap.size ≠ w.heap.size := Ne.symm hne
  generalize w1.heap.size = G at *
  have g2 := range_rowF r2
  go_upto_region 10 with (first
    | (refine wpList_load_at (by kernel_rfl) 36 (.tmp 12) rfl G 0 (retC line key MA MB zero32) (by kernel_rfl) g2 Tryz.underlying36 rfl HIN0.out ?_)
    | (go_at_call 104; (with_reducible refine (C4.out _).mono ?_); rintro e w3 ⟨rfl, hb⟩; replace r0 := r0.below hb r0.lt; replace r2 := r2.below hb r2.lt; replace hB := hB.trans (hb.mono hB.size);
        have hst := HPUT.out _ _ r2; have htl := HTL.out; have r4 := Row.part r2 (retC line key MA MB (D.map bv)); have q0 := Row.setOther r0 hne (retC line key MA MB (D.map bv)).toArray; have hB4 := below_setRow hB hle (retC line key MA MB (D.map bv)).toArray;
        generalize w3.setRow G (retC line key MA MB (D.map bv)).toArray = W4 at *; clear r0 r2 hB hb g2))
  have g4 := range_rowF r4
  clear hst htl
  go_wp2_with (first
    | (refine wpList_load_at (by kernel_rfl) 36 (.tmp 12) rfl G 0 (retC line key MA MB (D.map bv)) (by kernel_rfl) g4 Tryz.underlying36 rfl HINL.out ?_)
    | (refine wpList_store_row rfl 36 _ _ rfl w.heap.size (retC line key MA MB (D.map bv)).toArray rfl rfl 36 (retC 0 0 0 0 zero32).toArray q0 HINF.out HSZ.out H1C.out ?_; have r5 := Row.part q0 (retC line key MA MB (D.map bv)); have hB5 := below_setRow hB4 (Nat.le_refl w.heap.size) (retC line key MA MB (D.map bv)).toArray; generalize World.setRow _ w.heap.size (retC line key MA MB (D.map bv)).toArray = W6 at *))
  exact bodyPost_ret (ret_rmake _ _ _ _ _ L1.out rfl rfl r5) rfl ⟨by rw [HMC.out], hB5⟩
end Go.Proofs.YthckledagggoiaaGreatDoor
