import Derived.Test.YthckledagggoiaaGreatDoorZFs4
set_option linter.unusedSimpArgs false
set_option linter.unusedVariables false
namespace Go.Proofs.YthckledagggoiaaGreatDoor
open Go.RowKit Go.Shelf Fk Sha
/-! The law's examples hold. -/
theorem makeA_vld (r : Int) : vld (makeA r) = true := by unfold makeA timesC; exact vld_mul vld_1 (vld_powC vld_4 r)
theorem makeB_vld {key al : Int} (r : Int) (hk : vld key = true) (ha : 1 ≤ al ∧ al ≤ 1073741789) : vld (makeB key al r) = true := by unfold makeB timesC; exact vld_mul (vld_el ha.1 ha.2) (vld_powC hk r)
theorem homeF_ok {k : Int} (h : 0 ≤ k ∧ k < 10 := by decide) : (homeF (k, 0, 0)).ok :=
  have z : okN 0 := by unfold okN; omega
  ⟨okN_of h (by decide), z, z, z, z, z, z, rfl⟩
theorem cells34 {w : World} {g : Nat} {x : Fw} (h : Row w g 38 x.cells) {a b : Int} (ha : x.line = a) (hb : x.key = b) : w.cell? ⟨g, 3, none⟩ = some (.int .i64 a) ∧ w.cell? ⟨g, 4, none⟩ = some (.int .i64 b) := by
  subst ha hb
  exact ⟨h.cell 3, h.cell 4⟩
theorem range_full {w : World} {g : Nat} {t : Int × Int × Int} {line key al r : Int} (h : Row w g 38 (fullF t line key al r).cells) : w.rangeAt g 3 (makeC line key al r) := by
  have := range_back h
  unfold makeC
  simpa only [fullF] using this
theorem range_fullH {w : World} {g : Nat} {a b c : Int} {line key al r : Int} (h : Row w g 38 (fullF (a, b, c) line key al r).cells) : w.rangeAt g 0 [.int .i64 a, .int .i64 b, .int .i64 c] := by
  have := range_home h
  simpa only [fullF] using this
theorem makeC_len (line key al r : Int) : (makeC line key al r).length = 36 := retC_len (by rw [List.length_map]; exact tagN_len _ _ _ _)
theorem ocheck_make (line key al r : Int) (hln : 0 ≤ line ∧ line < 64) (hk : vld key = true) (ha : 1 ≤ al ∧ al ≤ 1073741789) (w : World) (hT : TabOK w) :
    Calls Tryz.prog 22 #[.agg (makeC line key al r).toArray] w fun e w' => e = .returned (.int .i64 0) ∧ Below w.heap.size w w' :=
  ocheck_any line key (makeA r) (makeB key al r) hln hk (makeA_vld r) (makeB_vld r hk ha) w hT
set_option maxRecDepth 100000 in
set_option maxHeartbeats 8000000 in
theorem sane36_any (w : World) (hT : TabOK w) :
    Calls Tryz.prog 9 #[] w fun e w' => e = .returned (.bool true) ∧ Below w.heap.size w w' := by
  have l1 := fun (W : World) (hb : Below w.heap.size w W) => lnext_any 1 3 _ 0 nx1 (tagN_len _ _ _ _) W (hT.below hb)
  have l2 := fun (W : World) (hb : Below w.heap.size w W) => lnext_any 3 0 _ 0 nx2 rfl W (hT.below hb)
  have l3 := fun (W : World) (hb : Below w.heap.size w W) => lnext_any 1 0 _ 0 nx3 rfl W (hT.below hb)
  have l4 := fun (W : World) (hb : Below w.heap.size w W) => lnext_any 1 2 _ 0 nx4 rfl W (hT.below hb)
  have n5 := fun (p q : Nat) (v kv : Value) (W : World) (hb : Below w.heap.size w W) (h1 : SlX W W.heap.size v [lineX p q]) (h2 : SlI W W.heap.size kv [4]) => next_any [lineX p q] 4 v [4] kv 5 [] (.slice none 0 0) 0 0 1 0 0 9 W (hT.below hb) h1 h2 (SlG.nil_ _ _)
  have n6 := fun (p q : Nat) (v : Value) (W : World) (hb : Below w.heap.size w W) (h1 : SlX W W.heap.size v [lineX p q]) => next_any [lineX p q] 4 v [] (.slice none 0 0) 5 [] (.slice none 0 0) 4 0 1 0 0 9 W (hT.below hb) h1 (SlG.nil_ _ _) (SlG.nil_ _ _)
  have n7 := fun (p q : Nat) (v kv : Value) (W : World) (hb : Below w.heap.size w W) (h1 : SlX W W.heap.size v [lineX p q]) (h2 : SlI W W.heap.size kv [2]) => next_any [lineX p q] 4 v [2] kv 5 [] (.slice none 0 0) 4 0 1 0 0 9 W (hT.below hb) h1 h2 (SlG.nil_ _ _)
  have n8 := fun (p q : Nat) (v kv : Value) (W : World) (hb : Below w.heap.size w W) (h1 : SlX W W.heap.size v [lineX p q]) (h2 : SlI W W.heap.size kv [4]) => next_any [lineX p q] 4 v [4] kv 0 [] (.slice none 0 0) 4 0 1 0 0 9 W (hT.below hb) h1 h2 (SlG.nil_ _ _)
  simp only [nx5] at n5
  simp only [nx6] at n6
  simp only [nx7] at n7
  simp only [nx8] at n8
  have hal := aliasA_bd (s := 5) (p := 0) (o := 3) (by decide)
  have c9 := fun (W : World) (hb : Below w.heap.size w W) => ocheck_make 0 4 (aliasA 5 0 3) 9 (by decide) vld_4 hal W (hT.below hb)
  have hrl := makeC_len 0 4 (aliasA 5 0 3) 9
  have hd1 : (fullF (1, 0, 3) 0 4 (aliasA 5 0 3) 9).ds.length = 32 := tagN_len _ _ _ _
  have hbk := fun (W : World) (g : Nat) (h : Row W g 38 (fullF (1, 0, 3) 0 4 (aliasA 5 0 3) 9).cells) => range_full h
  have hhm := fun (W : World) (g : Nat) (h : Row W g 38 (fullF (1, 0, 3) 0 4 (aliasA 5 0 3) 9).cells) => range_fullH h
  have hcl := fun (W : World) (g : Nat) (h : Row W g 38 (fullF (1, 0, 3) 0 4 (aliasA 5 0 3) 9).cells) => cells34 h (a := 0) (b := 4) rfl rfl
  obtain ⟨F1, hF1⟩ : ∃ x, fullF (1, 0, 3) 0 4 (aliasA 5 0 3) 9 = x := ⟨_, rfl⟩
  rw [hF1] at l1 hd1
  simp only [hF1] at hbk hhm hcl
  obtain ⟨RC, hRC⟩ : ∃ x, makeC 0 4 (aliasA 5 0 3) 9 = x := ⟨_, rfl⟩
  rw [hRC] at c9 hrl
  simp only [hRC] at hbk
  have q2 := fun W => eqFw (x := homeF (3, 0, 0)) (y := homeF (3, 0, 0)) homeF_ok homeF_ok W
  have q3 := fun W => eqFw (x := homeF (1, 0, 0)) (y := homeF (1, 0, 0)) homeF_ok homeF_ok W
  have q4 := fun W => eqFw (x := homeF (2, 0, 0)) (y := homeF (2, 0, 0)) homeF_ok homeF_ok W
  rw [decide_eq_true rfl] at q2 q3 q4
  have q1 := fun W => eqHome (a := 1) (b := 0) (c := 3) (a' := 1) (b' := 0) (c' := 3) (by unfold okN; omega) (by unfold okN; omega) W
  rw [decide_eq_true ⟨rfl, rfl, rfl⟩] at q1
  have v2 : (homeF (3, 0, 0)).cells.toArray = #[.int .i64 3, .int .i64 0, .int .i64 0, .int .i64 0, .int .i64 0, .int .i64 0, .int .i64 0, .int .u8 0, .int .u8 0, .int .u8 0, .int .u8 0, .int .u8 0, .int .u8 0, .int .u8 0, .int .u8 0, .int .u8 0, .int .u8 0, .int .u8 0, .int .u8 0, .int .u8 0, .int .u8 0, .int .u8 0, .int .u8 0, .int .u8 0, .int .u8 0, .int .u8 0, .int .u8 0, .int .u8 0, .int .u8 0, .int .u8 0, .int .u8 0, .int .u8 0, .int .u8 0, .int .u8 0, .int .u8 0, .int .u8 0, .int .u8 0, .int .u8 0, .int .u8 0] := rfl
  have v3 : (homeF (1, 0, 0)).cells.toArray = #[.int .i64 1, .int .i64 0, .int .i64 0, .int .i64 0, .int .i64 0, .int .i64 0, .int .i64 0, .int .u8 0, .int .u8 0, .int .u8 0, .int .u8 0, .int .u8 0, .int .u8 0, .int .u8 0, .int .u8 0, .int .u8 0, .int .u8 0, .int .u8 0, .int .u8 0, .int .u8 0, .int .u8 0, .int .u8 0, .int .u8 0, .int .u8 0, .int .u8 0, .int .u8 0, .int .u8 0, .int .u8 0, .int .u8 0, .int .u8 0, .int .u8 0, .int .u8 0, .int .u8 0, .int .u8 0, .int .u8 0, .int .u8 0, .int .u8 0, .int .u8 0, .int .u8 0] := rfl
  have v4 : (homeF (2, 0, 0)).cells.toArray = #[.int .i64 2, .int .i64 0, .int .i64 0, .int .i64 0, .int .i64 0, .int .i64 0, .int .i64 0, .int .u8 0, .int .u8 0, .int .u8 0, .int .u8 0, .int .u8 0, .int .u8 0, .int .u8 0, .int .u8 0, .int .u8 0, .int .u8 0, .int .u8 0, .int .u8 0, .int .u8 0, .int .u8 0, .int .u8 0, .int .u8 0, .int .u8 0, .int .u8 0, .int .u8 0, .int .u8 0, .int .u8 0, .int .u8 0, .int .u8 0, .int .u8 0, .int .u8 0, .int .u8 0, .int .u8 0, .int .u8 0, .int .u8 0, .int .u8 0, .int .u8 0, .int .u8 0] := rfl
  obtain ⟨F2, hF2⟩ : ∃ x, homeF (3, 0, 0) = x := ⟨_, rfl⟩
  obtain ⟨F3, hF3⟩ : ∃ x, homeF (1, 0, 0) = x := ⟨_, rfl⟩
  obtain ⟨F4, hF4⟩ : ∃ x, homeF (2, 0, 0) = x := ⟨_, rfl⟩
  have hd2 : F2.ds.length = 32 := by rw [← hF2]; rfl
  have hd3 : F3.ds.length = 32 := by rw [← hF3]; rfl
  have hd4 : F4.ds.length = 32 := by rw [← hF4]; rfl
  rw [hF2] at l2 q2 v2
  rw [hF3] at l3 q3 v3
  rw [hF4] at l4 q4 v4
  have hinfR : (Tryz.prog.info? 36).map (·.size) = some RC.length := by rw [hrl]; kernel_rfl
  have hinf2 : (Tryz.prog.info? 38).map (·.size) = some F2.cells.length := by rw [Fw.len hd2]; kernel_rfl
  have hinf3 : (Tryz.prog.info? 38).map (·.size) = some F3.cells.length := by rw [Fw.len hd3]; kernel_rfl
  have hinf4 : (Tryz.prog.info? 38).map (·.size) = some F4.cells.length := by rw [Fw.len hd4]; kernel_rfl
  have L1H := Lib.hid l1
  have L2H := Lib.hid l2
  have L3H := Lib.hid l3
  have L4H := Lib.hid l4
  have N5H := Lib.hid n5
  have N6H := Lib.hid n6
  have N7H := Lib.hid n7
  have N8H := Lib.hid n8
  have C9H := Lib.hid c9
  have HBKH := Lib.hid hbk
  have HHMH := Lib.hid hhm
  have HCLH := Lib.hid hcl
  have Q1H := Lib.hid q1
  have Q2H := Lib.hid q2
  have Q3H := Lib.hid q3
  have Q4H := Lib.hid q4
  have V2H := Lib.hid v2
  have V3H := Lib.hid v3
  have V4H := Lib.hid v4
  have HD1H := Lib.hid hd1
  have HD2H := Lib.hid hd2
  have HD3H := Lib.hid hd3
  have HD4H := Lib.hid hd4
  have HINFRH := Lib.hid hinfR
  have HINF2H := Lib.hid hinf2
  have HINF3H := Lib.hid hinf3
  have HINF4H := Lib.hid hinf4
  clear l1 l2 l3 l4 n5 n6 n7 n8 c9 hbk hhm hcl q1 q2 q3 q4 v2 v3 v4 hd1 hd2 hd3 hd4 hinfR hinf2 hinf3 hinf4 hF1 hF2 hF3 hF4 hRC hrl hal hT
  have hB := Below.refl w.heap.size w
  go_enter Tryz.func9, Tryz.ntmps9
  go_upto_region 2 with (first
    | (go_at_call 33; (with_reducible refine (L1H.out _ hB).mono ?_); rintro e w1 ⟨rfl, hb⟩; replace hB := hB.trans (hb.mono hB.size); clear hb)
    | (refine wpList_newF rfl rfl _ rfl rfl _ rfl rfl F1 HD1H.out (by kernel_rfl) (by kernel_rfl) ?_; intro W1 r1 hb; replace hB := hB.trans (hb.mono hB.size); clear hb))
  generalize w1.heap.size = G1 at *
  go_upto_region 3 with (first
    | (go_at_call 33; (with_reducible refine (L2H.out _ hB).mono ?_); rintro e w2 ⟨rfl, hb⟩; replace r1 := r1.below hb r1.lt; replace hB := hB.trans (hb.mono hB.size); clear hb)
    | (refine wpList_newF rfl rfl _ rfl rfl _ rfl rfl F2 HD2H.out (by kernel_rfl) (by kernel_rfl) ?_; intro W2 r2 hb; replace r1 := r1.below hb r1.lt; replace hB := hB.trans (hb.mono hB.size); clear hb))
  generalize w2.heap.size = G2 at *
  go_upto_region 4 with (first
    | (go_at_call 33; (with_reducible refine (L3H.out _ hB).mono ?_); rintro e w3 ⟨rfl, hb⟩; replace r1 := r1.below hb r1.lt; replace r2 := r2.below hb r2.lt; replace hB := hB.trans (hb.mono hB.size); clear hb)
    | (refine wpList_newF rfl rfl _ rfl rfl _ rfl rfl F3 HD3H.out (by kernel_rfl) (by kernel_rfl) ?_; intro W3 r3 hb; replace r1 := r1.below hb r1.lt; replace r2 := r2.below hb r2.lt; replace hB := hB.trans (hb.mono hB.size); clear hb))
  generalize w3.heap.size = G3 at *
  go_upto_region 5 with (first
    | (go_at_call 33; (with_reducible refine (L4H.out _ hB).mono ?_); rintro e w4 ⟨rfl, hb⟩; replace r1 := r1.below hb r1.lt; replace r2 := r2.below hb r2.lt; replace r3 := r3.below hb r3.lt; replace hB := hB.trans (hb.mono hB.size); clear hb)
    | (refine wpList_newF rfl rfl _ rfl rfl _ rfl rfl F4 HD4H.out (by kernel_rfl) (by kernel_rfl) ?_; intro W4 r4 hb; replace r1 := r1.below hb r1.lt; replace r2 := r2.below hb r2.lt; replace r3 := r3.below hb r3.lt; replace hB := hB.trans (hb.mono hB.size); clear hb))
  generalize w4.heap.size = G4 at *
  have hS : SaneS w W4 G1 G2 G3 G4 F1 F2 F3 F4 := ⟨hB, r1, r2, r3, r4⟩
  clear hB r1 r2 r3 r4
  go_upto_region 6 with (first
    | (go_at_call 34; (with_reducible refine (table_any _).mono ?_); rintro e wt5 ⟨v, p, q, rfl, hv, hb⟩; replace hS := hS.below hb; have hkv := sl_newI wt5 [4] #[.int .i64 4] rfl (by simp) 1 rfl; have hbn := below_alloc' wt5 (.cells #[.int .i64 4] 3); replace hv := hv.below hbn; replace hS := hS.below hbn; clear hbn; clear hb)
    | (go_at_call 11; (with_reducible refine (N5H.out _ _ _ _ _ hS.bel hv hkv).mono ?_); rintro e wn5 ⟨rfl, hb⟩; replace hS := hS.below hb; clear hb hv hkv)
    | (refine wpList_newF rfl rfl _ rfl rfl _ rfl rfl zeroF rfl (by kernel_rfl) (by kernel_rfl) ?_; intro W5 r hb; replace hS := hS.below hb; clear r hb))
  generalize wn5.heap.size = G5 at *
  go_upto_region 7 with (first
    | (go_at_call 34; (with_reducible refine (table_any _).mono ?_); rintro e wt6 ⟨v, p, q, rfl, hv, hb⟩; replace hS := hS.below hb; clear hb)
    | (go_at_call 11; (with_reducible refine (N6H.out _ _ _ _ hS.bel hv).mono ?_); rintro e wn6 ⟨rfl, hb⟩; replace hS := hS.below hb; clear hb hv)
    | (refine wpList_newF rfl rfl _ rfl rfl _ rfl rfl zeroF rfl (by kernel_rfl) (by kernel_rfl) ?_; intro W6 r hb; replace hS := hS.below hb; clear r hb))
  generalize wn6.heap.size = G6 at *
  go_upto_region 8 with (first
    | (go_at_call 34; (with_reducible refine (table_any _).mono ?_); rintro e wt7 ⟨v, p, q, rfl, hv, hb⟩; replace hS := hS.below hb; have hkv := sl_newI wt7 [2] #[.int .i64 2] rfl (by simp) 1 rfl; have hbn := below_alloc' wt7 (.cells #[.int .i64 2] 3); replace hv := hv.below hbn; replace hS := hS.below hbn; clear hbn; clear hb)
    | (go_at_call 11; (with_reducible refine (N7H.out _ _ _ _ _ hS.bel hv hkv).mono ?_); rintro e wn7 ⟨rfl, hb⟩; replace hS := hS.below hb; clear hb hv hkv)
    | (refine wpList_newF rfl rfl _ rfl rfl _ rfl rfl zeroF rfl (by kernel_rfl) (by kernel_rfl) ?_; intro W7 r hb; replace hS := hS.below hb; clear r hb))
  generalize wn7.heap.size = G7 at *
  go_upto_region 9 with (first
    | (go_at_call 34; (with_reducible refine (table_any _).mono ?_); rintro e wt8 ⟨v, p, q, rfl, hv, hb⟩; replace hS := hS.below hb; have hkv := sl_newI wt8 [4] #[.int .i64 4] rfl (by simp) 1 rfl; have hbn := below_alloc' wt8 (.cells #[.int .i64 4] 3); replace hv := hv.below hbn; replace hS := hS.below hbn; clear hbn; clear hb)
    | (go_at_call 11; (with_reducible refine (N8H.out _ _ _ _ _ hS.bel hv hkv).mono ?_); rintro e wn8 ⟨rfl, hb⟩; replace hS := hS.below hb; clear hb hv hkv)
    | (refine wpList_newF rfl rfl _ rfl rfl _ rfl rfl zeroF rfl (by kernel_rfl) (by kernel_rfl) ?_; intro W8 r hb; replace hS := hS.below hb; clear r hb))
  generalize wn8.heap.size = G8 at *
  go_upto_region 10 with fail
  have hh := HHMH.out _ _ hS.r1
  have hk := HBKH.out _ _ hS.r1
  obtain ⟨m3, m4⟩ := HCLH.out _ _ hS.r1
  go_upto_region 12 with (first
    | (refine wpList_load_at (by kernel_rfl) 30 _ rfl G1 0 [.int .i64 1, .int .i64 0, .int .i64 3] (by kernel_rfl) hh Tryz.underlying30 rfl infoHome ?_)
    | (refine wpList_neq_at (by kernel_rfl) 30 _ _ _ rfl #[.int .i64 1, .int .i64 0, .int .i64 3] #[.int .i64 1, .int .i64 0, .int .i64 3] (by kernel_rfl) (by kernel_rfl) (by kernel_rfl) true Q1H.out ?_)
    | (refine wpList_load_at (by kernel_rfl) 36 _ rfl G1 3 RC (by kernel_rfl) hk Tryz.underlying36 rfl HINFRH.out ?_)
    | (go_at_call 22; (with_reducible refine (C9H.out _ hS.bel).mono ?_); rintro e wc ⟨rfl, hb⟩; replace hS := hS.below hb; clear hb))
  have g2 := range_rowF hS.r2
  have g3 := range_rowF hS.r3
  have g4 := range_rowF hS.r4
  go_wp2_with (first
    | (refine wpList_load_at (by kernel_rfl) 38 (.tmp 3) rfl G2 0 F2.cells (by kernel_rfl) g2 Tryz.underlying38 rfl HINF2H.out ?_)
    | (refine wpList_eql_at (by kernel_rfl) 38 _ (.tmp 113) (.tmp 115) rfl F2.cells.toArray F2.cells.toArray (by kernel_rfl) ((congrArg Value.agg V2H.out).symm) (by kernel_rfl) true Q2H.out ?_)
    | (refine wpList_load_at (by kernel_rfl) 38 (.tmp 5) rfl G3 0 F3.cells (by kernel_rfl) g3 Tryz.underlying38 rfl HINF3H.out ?_)
    | (refine wpList_eql_at (by kernel_rfl) 38 _ (.tmp 118) (.tmp 120) rfl F3.cells.toArray F3.cells.toArray (by kernel_rfl) ((congrArg Value.agg V3H.out).symm) (by kernel_rfl) true Q3H.out ?_)
    | (refine wpList_load_at (by kernel_rfl) 38 (.tmp 7) rfl G4 0 F4.cells (by kernel_rfl) g4 Tryz.underlying38 rfl HINF4H.out ?_)
    | (refine wpList_eql_at (by kernel_rfl) 38 _ (.tmp 124) (.tmp 126) rfl F4.cells.toArray F4.cells.toArray (by kernel_rfl) ((congrArg Value.agg V4H.out).symm) (by kernel_rfl) true Q4H.out ?_))
  go_ret
  exact ⟨rfl, hS.bel⟩
end Go.Proofs.YthckledagggoiaaGreatDoor
