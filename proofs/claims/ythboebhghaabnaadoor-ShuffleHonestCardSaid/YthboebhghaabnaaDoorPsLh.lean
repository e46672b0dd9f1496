import Derived.Test.YthboebhghaabnaaDoorPsm
import Derived.Deep.QuietTactic
import Derived.BigQuiet
set_option linter.unusedSimpArgs false
set_option linter.unusedVariables false
namespace Go.Proofs.YthboebhghaabnaaDoor
open Go.RowKit Fk Sha
/-! ShuffleHonest. -/
theorem wfTn_ok {t : Tn} (h : wfTn t) : OkTn t :=
  ⟨h.s, fun i h1 h2 h3 => wfOg_ok ⟨h.l i h1, h.rl i h2, by show ((t.s.getD i default).take 32).length = 32; rw [List.length_take, h.s i h3]; rfl⟩,
    fun i h1 h2 h3 => wfOg_ok ⟨h.r i h1, h.rr i h2, by show (((t.s.getD i default).drop 32).take 32).length = 32; rw [List.length_take, List.length_drop, h.s i h3]; rfl⟩⟩
set_option maxRecDepth 100000 in
set_option maxHeartbeats 8000000 in
theorem shuffleHonest_walk (secret : Int) (ws : List Tr) (v1 : Value) (qs : List Tr) (v2 : Value) (t : Tn) (x : TnA) (mask : Int) (w : World) (hT0 : Tab w) (hz0 : 1 < w.heap.size ∧ 0 < w.heap.size)
    (h1 : SlG 3 Tr.cells w w.heap.size v1 ws) (h2 : SlG 3 Tr.cells w w.heap.size v2 qs) (ht : TnS w w.heap.size x t)
    (_ : (Lit.int .i64 secret).wf = true) (_ : ∀ i, i < ws.length → wfR (ws.getD i default)) (_ : ∀ i, i < qs.length → wfR (qs.getD i default)) (hwt : wfTn t) (hmask : (Lit.int .u8 mask).wf = true) :
    Calls Tryd.prog 9 #[.int .i64 secret, v1, v2, .agg (x.cells t).toArray, .int .u8 mask] w fun e w' => e = .returned (.bool true) ∧ Below w.heap.size w w' := by
  have HT := Lib.hid (show TabS w from ⟨hT0, hz0⟩)
  have SN := Lib.hid (fun W (hb : Below w.heap.size w W) => sane14_any W (HT.out.below hb))
  have SC := Lib.hid (fun W => rsecret14_any secret W)
  have RR := Lib.hid (fun W h => rright_any t x ws.length W h)
  have OKT := Lib.hid (wfTn_ok hwt)
  have HM := Lib.hid (bounds_u8 hmask)
  have hB := below_alloc' w (.cells (x.cells t).toArray 26)
  have r0 := Row.new w 26 (x.cells t)
  obtain ⟨W, hW⟩ : ∃ W, w.alloc (.cells (x.cells t).toArray 26) = W := ⟨_, rfl⟩
  replace r0 : Row W w.heap.size 26 (x.cells t) := hW ▸ r0
  replace hB : Below w.heap.size w W := hW ▸ hB
  have k0 : Kp fun W' => ((Below w.heap.size w W' ∧ Row W' w.heap.size 26 (x.cells t)) ∧ TnS W' W'.heap.size x t ∧ SlG 3 Tr.cells W' W'.heap.size v1 ws ∧ SlG 3 Tr.cells W' W'.heap.size v2 qs) := by intro W W' hb ⟨⟨a, b⟩, c, d, e⟩; exact ⟨⟨Kp.from w hb a, Kp.row hb b⟩, Kp.tn hb c, Kp.sl hb d, Kp.sl hb e⟩
  have h0 : (fun W' => ((Below w.heap.size w W' ∧ Row W' w.heap.size 26 (x.cells t)) ∧ TnS W' W'.heap.size x t ∧ SlG 3 Tr.cells W' W'.heap.size v1 ws ∧ SlG 3 Tr.cells W' W'.heap.size v2 qs)) W := ⟨⟨hB, r0⟩, (ht.below hB).mono hB.size, (h1.below hB).mono hB.size, (h2.below hB).mono hB.size⟩
  have MK := Lib.hid (fun (key : Int) (s : List Se) (v : Value) (W : World) (hb : Below w.heap.size w W) (h : TnS W W.heap.size x t) (hs : SlS W W.heap.size v s) => make_any key s t x v W (HT.out.below hb) h hs OKT.out)
  have OP := Lib.hid (fun (bits : List Int) (v : Value) (W : World) h hb => open_any t x bits v W h hb OKT.out.s)
  have TR := Lib.hid (fun (W : World) h => trace_any t x W h)
  obtain ⟨_, A1, c1, rfl, _⟩ := id h1
  obtain ⟨_, A2, c2, rfl, _⟩ := id h2
  obtain ⟨al, cl, ar, cr, arl, crl, arr, crr, at_, ct⟩ := x
  have hx : (TnA.cells ⟨al, cl, ar, cr, arl, crl, arr, crr, at_, ct⟩ t) = [.slice al t.l.length cl, .slice ar t.r.length cr, .slice arl t.rl.length crl, .slice arr t.rr.length crr, .slice at_ t.s.length ct] := rfl
  rw [hx] at RR h0 k0 hW MK OP TR ⊢
  replace hW : w.alloc (.cells #[.slice al t.l.length cl, .slice ar t.r.length cr, .slice arl t.rl.length crl, .slice arr t.rr.length crr, .slice at_ t.s.length ct] 26) = W := hW
  clear hT0 hz0 h1 h2 ht hwt hmask hB r0 hx
  by_cases f1 : (6 : Int) < ws.length
  · skip
    go_enter Tryd.func9, Tryd.ntmps9
    go_upto_region 1 with fail
    try rw [hW]
    clear hW
    go_wp2_with (go_at_call 10; (with_reducible refine (SN.out _ h0.1.1).mono ?_); rintro e w1 ⟨rfl, hb⟩; replace h0 := k0 hb h0; clear hb; obtain ⟨e0, e1, e2, e3, e4⟩ := st5c h0.1.2)
    go_ret
    exact ⟨rfl, h0.1.1⟩
  by_cases f2 : (qs.length : Int) < ws.length
  · skip
    go_enter Tryd.func9, Tryd.ntmps9
    go_upto_region 1 with fail
    try rw [hW]
    clear hW
    go_wp2_with (go_at_call 10; (with_reducible refine (SN.out _ h0.1.1).mono ?_); rintro e w1 ⟨rfl, hb⟩; replace h0 := k0 hb h0; clear hb; obtain ⟨e0, e1, e2, e3, e4⟩ := st5c h0.1.2)
    go_ret
    exact ⟨rfl, h0.1.1⟩
  by_cases f3 : (12 : Int) < qs.length
  · skip
    go_enter Tryd.func9, Tryd.ntmps9
    go_upto_region 1 with fail
    try rw [hW]
    clear hW
    go_wp2_with (go_at_call 10; (with_reducible refine (SN.out _ h0.1.1).mono ?_); rintro e w1 ⟨rfl, hb⟩; replace h0 := k0 hb h0; clear hb; obtain ⟨e0, e1, e2, e3, e4⟩ := st5c h0.1.2)
    go_ret
    exact ⟨rfl, h0.1.1⟩
  cases f4 : secB secret with
  | false =>
    rw [f4] at SC
    go_enter Tryd.func9, Tryd.ntmps9
    go_upto_region 1 with fail
    try rw [hW]
    clear hW
    go_wp2_with (first
      | (go_at_call 10; (with_reducible refine (SN.out _ h0.1.1).mono ?_); rintro e w1 ⟨rfl, hb⟩; replace h0 := k0 hb h0; clear hb; obtain ⟨e0, e1, e2, e3, e4⟩ := st5c h0.1.2)
      | (go_at_call 35; (with_reducible refine (SC.out _).mono ?_); rintro e w2 ⟨rfl, hb⟩; replace h0 := k0 hb h0; clear hb; obtain ⟨e0, e1, e2, e3, e4⟩ := st5c h0.1.2))
    go_ret
    exact ⟨rfl, h0.1.1⟩
  | true =>
  rw [f4] at SC
  cases f5 : rightB t ws.length with
  | false =>
    rw [f5] at RR
    go_enter Tryd.func9, Tryd.ntmps9
    go_upto_region 1 with fail
    try rw [hW]
    clear hW
    go_wp2_with (first
      | (go_at_call 10; (with_reducible refine (SN.out _ h0.1.1).mono ?_); rintro e w1 ⟨rfl, hb⟩; replace h0 := k0 hb h0; clear hb; obtain ⟨e0, e1, e2, e3, e4⟩ := st5c h0.1.2)
      | (go_at_call 35; (with_reducible refine (SC.out _).mono ?_); rintro e w2 ⟨rfl, hb⟩; replace h0 := k0 hb h0; clear hb; obtain ⟨e0, e1, e2, e3, e4⟩ := st5c h0.1.2)
      | (go_at_call 32; (with_reducible refine (RR.out _ h0.2.1).mono ?_); rintro e w3 ⟨rfl, hb⟩; replace h0 := k0 hb h0; clear hb; obtain ⟨e0, e1, e2, e3, e4⟩ := st5c h0.1.2))
    go_ret
    exact ⟨rfl, h0.1.1⟩
  | true =>
  rw [f5] at RR
  have PB := Lib.hid (fun W => public_any secret W)
  have hpc : pubC secret = powC 4 secret := by unfold pubC; rw [f4, if_pos rfl]
  have hpe : pubE secret = 0 := by unfold pubE; rw [f4, if_pos rfl]
  rw [hpc, hpe] at PB
  have SE := Lib.hid (fun a b W => seal_any (powC 4 secret) a b W)
  unfold Se.val Tr.val at SE
  have HS := Lib.hid f4
  have HR := Lib.hid f5
  have HK := Lib.hid (vld_powC vld_4 secret)
  obtain ⟨i0, hi, hz0, hz1, hz2⟩ := info_parts infoI1
  obtain ⟨j0, hj, hy0, hy1, hy2⟩ := info_parts infoS6
  obtain ⟨key, hkey⟩ : ∃ key, powC 4 secret = key := ⟨_, rfl⟩
  rw [hkey] at PB SE HK
  have HKEY : Hid (True ∧ powC 4 secret = key) := ⟨trivial, hkey⟩
  clear hpc hpe f4 f5 hkey
  go_enter Tryd.func9, Tryd.ntmps9
  go_upto_region 1 with fail
  try rw [hW]
  clear hW
  go_upto_region 9 with (first
    | (go_at_call 10; (with_reducible refine (SN.out _ h0.1.1).mono ?_); rintro e w1 ⟨rfl, hb⟩; replace h0 := k0 hb h0; clear hb; obtain ⟨e0, e1, e2, e3, e4⟩ := st5c h0.1.2)
    | (go_at_call 35; (with_reducible refine (SC.out _).mono ?_); rintro e w2 ⟨rfl, hb⟩; replace h0 := k0 hb h0; clear hb; obtain ⟨e0, e1, e2, e3, e4⟩ := st5c h0.1.2)
    | (go_at_call 32; (with_reducible refine (RR.out _ h0.2.1).mono ?_); rintro e w3 ⟨rfl, hb⟩; replace h0 := k0 hb h0; clear hb; obtain ⟨e0, e1, e2, e3, e4⟩ := st5c h0.1.2)
    | (go_at_call 36; (with_reducible refine (PB.out _).mono ?_); rintro e w4 ⟨rfl, hb⟩; replace h0 := k0 hb h0; clear hb; obtain ⟨e0, e1, e2, e3, e4⟩ := st5c h0.1.2))
  obtain ⟨W4, rfl⟩ : ∃ W : World, W = w4 := ⟨_, rfl⟩
  have hb4 := h0.1.1
  clear e0 e1 e2 e3 e4 SN SC RR PB
  go_wp2_with fail
  go_loopg [14, 15, 71] ws.length (fun g a b i wr => ∃ k : Nat, i = .int .i64 k ∧ k + g = ws.length ∧ (∀ j, j < k → wOK (ws.getD j default) = true) ∧ AppS W4.heap.size W4 (lettersTo secret ws qs k) (bitsM mask k) a b wr)
  case atStart => exact ⟨0, rfl, by omega, fun j hj => absurd hj (by omega), Below.refl _ _, Nat.le_refl _, World.ownsRow_nil _ _ _ _, World.ownsRow_nil _ _ _ _, fun k hk => by cases hk⟩
  case round =>
    obtain ⟨k, rfl, hkg, hok, hA⟩ := hrel
    by_cases hlt : k < ws.length
    · obtain ⟨b1, o1, a1, hb1, d1⟩ := sl_at (h0.2.2.1.below hA.b) hlt
      obtain ⟨b2, o2, a2, hb2, d2⟩ := sl_at (h0.2.2.2.below hA.b) (j := k) (by omega)
      subst a1 a2
      have rg1 : wr.rangeAt b1 (o1 + k * 3) (Tr.cells (ws.getD k default)) := range_sl d1 rfl
      have rg2 : wr.rangeAt b2 (o2 + k * 3) (Tr.cells (qs.getD k default)) := range_sl d2 rfl
      have hsn : lettersTo secret ws qs (k + 1) = lettersTo secret ws qs k ++ [LH secret (ws.getD k default) (qs.getD k default)] := map_range_snoc _ _
      have hbn2 : bitsM mask (k + 1) = bitsM mask k ++ [bitM mask k] := map_range_snoc _ _
      have hln : (lettersTo secret ws qs k).length = k := by simp [lettersTo]
      have hlb : (bitsM mask k).length = k := by simp [bitsM]
      have hLH : LH secret (ws.getD k default) (qs.getD k default) = sealC key (ws.getD k default) (qs.getD k default) := by unfold LH; rw [HKEY.out.2]
      have hsE : sealE key (ws.getD k default) = if wOK (ws.getD k default) then 0 else 100 := by unfold sealE; rw [HK.out, if_pos rfl]
      have hnx : wOK (ws.getD k default) = true → ∀ j, j < k + 1 → wOK (ws.getD j default) = true := fun h j hj => by
        rcases Nat.lt_or_ge j k with e | e
        · exact hok j e
        · obtain rfl : j = k := by omega
          exact h
      rw [hLH] at hsn
      have SEk := Lib.hid (fun W => SE.out (ws.getD k default) (qs.getD k default) W)
      have f10 : wr.cell? ⟨b1, o1 + k * 3, none⟩ = some (.int .i64 (ws.getD k default).p) := d1 0 (by omega)
      have f11 : wr.cell? ⟨b1, o1 + k * 3 + 1, none⟩ = some (.int .i64 (ws.getD k default).q) := d1 1 (by omega)
      have f12 : wr.cell? ⟨b1, o1 + k * 3 + 2, none⟩ = some (.int .i64 (ws.getD k default).r) := d1 2 (by omega)
      generalize ws.getD k default = wk at *
      generalize qs.getD k default = qk at *
      obtain ⟨S, hS⟩ : ∃ S, sealC key wk qk = S := ⟨_, rfl⟩
      obtain ⟨E, hE⟩ : ∃ E, sealE key wk = E := ⟨_, rfl⟩
      rw [hS] at hsn SEk
      rw [hE] at hsE SEk
      obtain ⟨LL, hLL⟩ : ∃ LL, lettersTo secret ws qs k = LL := ⟨_, rfl⟩
      obtain ⟨BB, hBB⟩ : ∃ BB, bitsM mask k = BB := ⟨_, rfl⟩
      rw [hLL] at hA hsn hln
      rw [hBB] at hA hbn2 hlb
      have HSN := Lib.hid hsn
      have HBN := Lib.hid hbn2
      have HNX := Lib.hid hnx
      have HE := Lib.hid hsE
      clear hok hsn hbn2 hnx hLH hS hE hLL hBB hsE d1 d2
      have s1 : (0 : Int) ≤ k := by omega
      have s2 : (k : Int) < ws.length := by omega
      have s3 : (k : Int) < qs.length := by omega
      have hb1r : b1 < wr.heap.size := by have := hA.z; omega
      have hb2r : b2 < wr.heap.size := by have := hA.z; omega
      go_upto_region 12 with fail
      have rW := Row.new wr 79 [.int .i64 wk.p, .int .i64 wk.q, .int .i64 wk.r]
      replace rg2 := range_below rg2 (below_alloc' wr (.cells #[.int .i64 wk.p, .int .i64 wk.q, .int .i64 wk.r] 79)) hb2r
      have hA2 := hA.alloc (.cells #[.int .i64 wk.p, .int .i64 wk.q, .int .i64 wk.r] 79)
      obtain ⟨Wc, hV⟩ : ∃ V, wr.alloc (.cells #[.int .i64 wk.p, .int .i64 wk.q, .int .i64 wk.r] 79) = V := ⟨_, rfl⟩
      replace rW : Row Wc wr.heap.size 79 [.int .i64 wk.p, .int .i64 wk.q, .int .i64 wk.r] := hV ▸ rW
      rw [hV] at rg2 hA2 ⊢
      have hb2c : b2 < Wc.heap.size := by have := hA2.z; omega
      clear hV hA rg1 f10 f11 f12
      generalize wr.heap.size = gW at rW ⊢
      go_cut [18, 19] from 76 to 85 (fun a b W' => b = .int .i64 E ∧ ∃ G3, a = .pointer (some ⟨G3, 0, none⟩) ∧ Below Wc.heap.size Wc W' ∧ Row W' G3 68 [.int .i64 S.x.a, .int .i64 S.x.b, .int .i64 S.y.a, .int .i64 S.y.b, .int .i64 S.z.a, .int .i64 S.z.b])
      case first =>
        refine wp_region_tree 12 (.take 0 (.take 1 (.take 2 (.take 3 (.take 4 (.take 5 (.two 6 (.take 7 (.take 8 (.take 9 (.one 10 (.one 11 .done))))) 10 (.one 6 (.take 7 (.take 8 (.take 9 (.one 11 .done))))))))))))
          (fun W' => Below Wc.heap.size Wc W') (by kernel_rfl) (by kernel_rfl) (fun _ _ d _ _ h => by cases d <;> exact h) (Below.refl _ _).drew ?_
        have hb : Below Wc.heap.size Wc Wc.drew := (Below.refl _ _).drew
        generalize Wc.drew = V1 at *
        refine wpTree_take (v := ?_) rfl (by kernel_rfl) (fun w hSw => ?_) ?_
        rotate_left 1
        · go_simp
          with_reducible rfl
        simp only [Act.put, List.setIfInBounds_toArray, List.set_cons_zero, List.set_cons_succ]
        refine wpTree_take (v := .agg #[.int .i64 wk.p, .int .i64 wk.q, .int .i64 wk.r]) rfl (by kernel_rfl) (fun w hSw => exec_load (ty := 79) (x := .tmp 17) (p := .pointer (some ⟨gW, 0, none⟩)) (by kernel_rfl) (by kernel_rfl) (run_loadAt_mid w gW 0 79 (Tr.cells wk) _ (range_row (rW.below hSw rW.lt)) Tryd.underlying79 rfl (by kernel_rfl))) ?_
        simp only [Act.put, List.setIfInBounds_toArray, List.set_cons_zero, List.set_cons_succ]
        iterate 3
          refine wpTree_take (v := ?_) rfl (by kernel_rfl) (fun w hSw => ?_) ?_
          rotate_left 1
          · go_simp
            with_reducible rfl
          simp only [Act.put, List.setIfInBounds_toArray, List.set_cons_zero, List.set_cons_succ]
        refine wpTree_take (v := .agg #[.int .i64 qk.p, .int .i64 qk.q, .int .i64 qk.r]) rfl (by kernel_rfl) (fun w hSw => exec_load (ty := 56) (x := .tmp 81) (p := .pointer (some ⟨b2, o2 + k * 3, none⟩)) (by kernel_rfl) (by kernel_rfl) (run_loadAt_mid w b2 (o2 + k * 3) 56 (Tr.cells qk) _ (range_below rg2 hSw hb2c) Tryd.underlying56 rfl (by kernel_rfl))) ?_
        simp only [Act.put, List.setIfInBounds_toArray, List.set_cons_zero, List.set_cons_succ]
        refine wpTree_two rfl rfl (fun K hK => ⟨by kernel_rfl, ?_⟩) (fun K hK => ⟨by kernel_rfl, ?_⟩)
        · skip
          go_simp
          go_at_call 37
          refine (SEk.out _).mono ?_
          rintro e V2 ⟨rfl, hbn⟩
          replace hb := hb.trans (hbn.mono hb.size)
          refine hK _ _ hb ?_
          clear hK K hbn
          try simp only [Act.put, List.setIfInBounds_toArray, List.set_cons_zero, List.set_cons_succ]
          iterate 3
            refine wpTree_take (v := ?_) rfl (by kernel_rfl) (fun w hSw => ?_) ?_
            rotate_left 1
            · go_simp
              with_reducible rfl
            simp only [Act.put, List.setIfInBounds_toArray, List.set_cons_zero, List.set_cons_succ]
          refine wpTree_one rfl (fun K hK => ⟨by kernel_rfl, ?_⟩)
          go_simp
          have ra3 := Row.new V2 68 [.int .i64 0, .int .i64 0, .int .i64 0, .int .i64 0, .int .i64 0, .int .i64 0]
          have hbn := below_alloc' V2 (.cells #[.int .i64 0, .int .i64 0, .int .i64 0, .int .i64 0, .int .i64 0, .int .i64 0] 68)
          have hg3 := hb.size
          obtain ⟨V3, hV⟩ : ∃ V, V2.alloc (.cells #[.int .i64 0, .int .i64 0, .int .i64 0, .int .i64 0, .int .i64 0, .int .i64 0] 68) = V := ⟨_, rfl⟩
          replace ra3 : Row V3 V2.heap.size 68 [.int .i64 0, .int .i64 0, .int .i64 0, .int .i64 0, .int .i64 0, .int .i64 0] := hV ▸ ra3
          rw [hV] at hbn
          replace hb := hb.trans (hbn.mono hb.size)
          try rw [hV]
          clear hV
          refine hK _ _ hb ?_
          clear hK K hbn
          try simp only [Act.put, List.setIfInBounds_toArray, List.set_cons_zero, List.set_cons_succ]
          generalize V2.heap.size = G3 at ra3 hg3 ⊢
          refine wpTree_one rfl (fun K hK => ⟨by kernel_rfl, ?_⟩)
          obtain ⟨m0, m1, m2, m3, m4, m5⟩ := st6 ra3
          have ff := fun i => Row.frozen ra3 i
          go_simp
          have hr := ((((((ra3.store 0 (.int .i64 S.x.a)).store 1 (.int .i64 S.x.b)).store 2 (.int .i64 S.y.a)).store 3 (.int .i64 S.y.b)).store 4 (.int .i64 S.z.a)).store 5 (.int .i64 S.z.b))
          have hbs := ((((((hb.setCell (p := ⟨G3, 0, none⟩) hg3 (.int .i64 S.x.a)).setCell (p := ⟨G3, 1, none⟩) hg3 (.int .i64 S.x.b)).setCell (p := ⟨G3, 2, none⟩) hg3 (.int .i64 S.y.a)).setCell (p := ⟨G3, 3, none⟩) hg3 (.int .i64 S.y.b)).setCell (p := ⟨G3, 4, none⟩) hg3 (.int .i64 S.z.a)).setCell (p := ⟨G3, 5, none⟩) hg3 (.int .i64 S.z.b))
          refine hK _ _ hbs ?_
          clear hK K
          refine wpTree_done ?_
          simp only [List.drop_succ_cons, List.drop_zero]
          have FIN := Lib.hid (And.intro hbs hr)
          clear hbs hr m0 m1 m2 m3 m4 m5 ff ra3 hb
          go_wp2_with fail
          go_meet
          exact ⟨rfl, G3, rfl, FIN.out.1, FIN.out.2⟩
        · skip
          go_simp
          have ra3 := Row.new V1 68 [.int .i64 0, .int .i64 0, .int .i64 0, .int .i64 0, .int .i64 0, .int .i64 0]
          have hbn := below_alloc' V1 (.cells #[.int .i64 0, .int .i64 0, .int .i64 0, .int .i64 0, .int .i64 0, .int .i64 0] 68)
          have hg3 := hb.size
          obtain ⟨V2, hV⟩ : ∃ V, V1.alloc (.cells #[.int .i64 0, .int .i64 0, .int .i64 0, .int .i64 0, .int .i64 0, .int .i64 0] 68) = V := ⟨_, rfl⟩
          replace ra3 : Row V2 V1.heap.size 68 [.int .i64 0, .int .i64 0, .int .i64 0, .int .i64 0, .int .i64 0, .int .i64 0] := hV ▸ ra3
          rw [hV] at hbn
          replace hb := hb.trans (hbn.mono hb.size)
          try rw [hV]
          clear hV
          refine hK _ _ hb ?_
          clear hK K hbn
          try simp only [Act.put, List.setIfInBounds_toArray, List.set_cons_zero, List.set_cons_succ]
          generalize V1.heap.size = G3 at ra3 hg3 ⊢
          refine wpTree_one rfl (fun K hK => ⟨by kernel_rfl, ?_⟩)
          go_simp
          go_at_call 37
          refine (SEk.out _).mono ?_
          rintro e V3 ⟨rfl, hbn⟩
          replace hb := hb.trans (hbn.mono hb.size)
          replace ra3 := ra3.below hbn ra3.lt
          refine hK _ _ hb ?_
          clear hK K hbn
          try simp only [Act.put, List.setIfInBounds_toArray, List.set_cons_zero, List.set_cons_succ]
          iterate 3
            refine wpTree_take (v := ?_) rfl (by kernel_rfl) (fun w hSw => ?_) ?_
            rotate_left 1
            · go_simp
              with_reducible rfl
            simp only [Act.put, List.setIfInBounds_toArray, List.set_cons_zero, List.set_cons_succ]
          refine wpTree_one rfl (fun K hK => ⟨by kernel_rfl, ?_⟩)
          obtain ⟨m0, m1, m2, m3, m4, m5⟩ := st6 ra3
          have ff := fun i => Row.frozen ra3 i
          go_simp
          have hr := ((((((ra3.store 0 (.int .i64 S.x.a)).store 1 (.int .i64 S.x.b)).store 2 (.int .i64 S.y.a)).store 3 (.int .i64 S.y.b)).store 4 (.int .i64 S.z.a)).store 5 (.int .i64 S.z.b))
          have hbs := ((((((hb.setCell (p := ⟨G3, 0, none⟩) hg3 (.int .i64 S.x.a)).setCell (p := ⟨G3, 1, none⟩) hg3 (.int .i64 S.x.b)).setCell (p := ⟨G3, 2, none⟩) hg3 (.int .i64 S.y.a)).setCell (p := ⟨G3, 3, none⟩) hg3 (.int .i64 S.y.b)).setCell (p := ⟨G3, 4, none⟩) hg3 (.int .i64 S.z.a)).setCell (p := ⟨G3, 5, none⟩) hg3 (.int .i64 S.z.b))
          refine hK _ _ hbs ?_
          clear hK K
          refine wpTree_done ?_
          simp only [List.drop_succ_cons, List.drop_zero]
          have FIN := Lib.hid (And.intro hbs hr)
          clear hbs hr m0 m1 m2 m3 m4 m5 ff ra3 hb
          go_wp2_with fail
          go_meet
          exact ⟨rfl, G3, rfl, FIN.out.1, FIN.out.2⟩
      case rest =>
        obtain ⟨rfl, G3, rfl, hb5, r3⟩ := hcut
        replace hA2 := hA2.below hb5
        have hbA : Below w.heap.size w wc := hb4.trans (hA2.b.mono hb4.size)
        cases hw : wOK wk with
        | false =>
          have hE0 := HE.out
          rw [hw, if_neg (by decide)] at hE0
          subst hE0
          go_wp2_with fail
          go_ret
          exact ⟨rfl, hbA⟩
        | true =>
          have hE0 := HE.out
          rw [hw, if_pos rfl] at hE0
          subst hE0
          have HNX2 := Lib.hid (HNX.out hw)
          clear HNX HE hw SEk rW rg2
          obtain ⟨x0, x1, x2, x3, x4, x5⟩ := st6 r3
          have hA3 := Lib.hid (hA2.alloc (.cells #[.int .i64 S.x.a, .int .i64 S.x.b, .int .i64 S.y.a, .int .i64 S.y.b, .int .i64 S.z.a, .int .i64 S.z.b] 68))
          go_upto_region 16 with (at_builtin; refine wpList_append_lies _ rfl _ _ 42 rfl W4.heap.size 68 j0 (.agg #[.int .i64 0, .int .i64 0, .int .i64 0, .int .i64 0, .int .i64 0, .int .i64 0]) 6 48 Tryd.underlying42 hj hy0 hy1 hy2 rfl (by decide) _ _ _ rfl hA3.out.o8 ⟨wc.heap.size, 0, none⟩ 1 1 [.int .i64 S.x.a, .int .i64 S.x.b, .int .i64 S.y.a, .int .i64 S.y.b, .int .i64 S.z.a, .int .i64 S.z.b] rfl rfl (cells_row (Row.new wc 68 [.int .i64 S.x.a, .int .i64 S.x.b, .int .i64 S.y.a, .int .i64 S.y.b, .int .i64 S.z.a, .int .i64 S.z.b])) (by simp [Value.oneCell']) (by decide) (by unfold maxLen; omega) (by omega) hA3.out.z _ rfl ?_; intro g3 cap3 w3 hown hgr hat hlt3)
          have hA4 := Lib.hid (hA3.out.left (x := S) hown hgr hat)
          clear hown hgr hat x0 x1 x2 x3 x4 x5 r3 hA2
          have hbm : wrap64 (bits .and .u8 (mask / 2 ^ k) 1) = bitM mask k := by
            rcases bitM_bit HM.out k with e | e
            · have e' := e
              unfold bitM at e'
              rw [e', e]; first | decide | exact IntWalk.i64_in _ (by decide) | simp [wrap64]
            · have e' := e
              unfold bitM at e'
              rw [e', e]; first | decide | exact IntWalk.i64_in _ (by decide) | simp [wrap64]
          generalize bitM mask k = bt at *
          have hA5 := Lib.hid (hA4.out.alloc (.cells #[.int .i64 bt] 3))
          go_wp2_with (at_builtin; refine wpList_append_lies _ rfl _ _ 22 rfl W4.heap.size 3 i0 (.int .i64 0) 1 8 Tryd.underlying22 hi hz0 hz1 hz2 rfl (by decide) _ _ _ rfl hA5.out.o9 ⟨w3.heap.size, 0, none⟩ 1 1 [.int .i64 bt] rfl rfl (news_row (Row.new w3 3 [.int .i64 bt])) (by simp [Value.oneCell']) (by decide) (by unfold maxLen; omega) (by omega) hA5.out.z _ rfl ?_; intro g5 cap5 w5 hown hgr hat hlt5)
          have hA6 := Lib.hid (hA5.out.right hown hgr hat)
          clear hown hgr hat
          go_roundg (gk - 1)
          case measure => omega
          case rel =>
            refine ⟨k + 1, by first | rfl | go_num, by omega, HNX2.out, ?_⟩
            have h := hA6.out
            rw [hln, hlb] at h
            rw [HSN.out, HBN.out]
            exact h
    · obtain rfl : k = ws.length := by omega
      obtain ⟨s, hs⟩ : ∃ s, lettersTo secret ws qs ws.length = s := ⟨_, rfl⟩
      obtain ⟨bits, hbits⟩ : ∃ bits, bitsM mask ws.length = bits := ⟨_, rfl⟩
      have hball : bits.all bitB = true := by rw [← hbits]; exact bitsM_all HM.out _
      have hbl : bits.length = ws.length := by rw [← hbits]; simp [bitsM]
      have hsl : s.length = ws.length := by rw [← hs]; simp [lettersTo]
      have hsg : ∀ j, j < ws.length → s.getD j default = LH secret (ws.getD j default) (qs.getD j default) := fun j hj => by rw [← hs]; exact map_range_get _ hj
      have hsk : s.all okS = true := all_of_getD fun i hi => by rw [hsl] at hi; rw [hsg i hi]; exact (lh_seal secret (hok i hi) _).2.2
      rw [hs, hbits] at hA
      clear hs hbits
      have hrs : rightB t s.length = true := by rw [hsl]; exact HR.out
      have hrb : rightB t bits.length = true := by rw [hbl]; exact HR.out
      have hrob : rightB t (opp bits).length = true := by rw [opp_length, hbl]; exact HR.out
      have r14 : SlS wr wr.heap.size u14 s := own_slM hA.o8 (fun _ _ => rfl) rfl (by omega)
      have r15 : SlI wr wr.heap.size u15 bits := own_slM (n := bits.length) (by rw [flat_ints]; exact hA.o9) (fun _ _ => rfl) rfl (by omega)
      replace h0 := k0 hA.b h0
      clear hA
      obtain ⟨_, A14, c14, rfl, _⟩ := id r14
      obtain ⟨_, A15, c15, rfl, _⟩ := id r15
      have MKs := Lib.hid (fun v W => MK.out key s v W)
      have OP1 := Lib.hid (fun v W => OP.out bits v W)
      have OP2 := Lib.hid (fun v W => OP.out (opp bits) v W)
      have OPP := Lib.hid (fun v W h => opposite_any bits v W h (by omega) (fun i hi => by rcases bit_at hball hi with e | e <;> rw [e] <;> decide))
      have WHL := Lib.hid (fun v0 v1 v2 W => whole_any bits (openTo t bits bits.length) (openTo t (opp bits) bits.length) v0 v1 v2 W)
      have hoo : openC t (opp bits) = openTo t (opp bits) bits.length := by rw [(hon_openC hrob (opp_bits hball)).2, opp_length]
      rw [hon_mixE HK.out hsk hrs, hon_mixC HK.out hsk hrs] at MKs
      rw [(hon_openC hrb hball).1, (hon_openC hrb hball).2] at OP1
      rw [(hon_openC hrob (opp_bits hball)).1, hoo] at OP2
      rw [(hon_whole hrb hball).1, (hon_whole hrb hball).2] at WHL
      rw [(hon_trace HR.out).1, (hon_trace HR.out).2] at TR
      have CK1 := hon_check HK.out hsk hrs (by rw [hbl, hsl]) hball
      have CK2 := hon_check HK.out hsk hrs (bits := opp bits) (by rw [opp_length, hbl, hsl]) (opp_bits hball)
      rw [opp_length] at CK2
      have HAT := Lib.hid (fun k (hk : k < s.length) => hon_at (key := key) (s := s) hrs hk)
      have hpf := rightB_facts HR.out
      have PRM := Lib.hid (show permB (goTo t.l t.r) = true from goTo_perm hpf.2.2.2.2.2.2.1 hpf.2.2.2.2.2.2.2 (by rw [hpf.1, hpf.2.1]))
      have hpl : (goTo t.l t.r).length = ws.length := by rw [goTo_length, hpf.1]
      have hmo : (mixTo key s t s.length).o.length = s.length := layTo_length _ _ _ _ _
      have hOL : ∀ i, i < (openTo t bits bits.length).length → ((openTo t bits bits.length).getD i default).ok := fun i hi => by
        rw [openTo_len] at hi
        rw [openTo_get bits hi]
        rcases bit_at hball hi with e | e <;> rw [e]
        · exact OKT.out.l i (by omega) (by omega) (by omega)
        · exact OKT.out.r i (by omega) (by omega) (by omega)
      have hOO : ∀ i, i < (openTo t (opp bits) bits.length).length → ((openTo t (opp bits) bits.length).getD i default).ok := fun i hi => by
        rw [openTo_len] at hi
        rw [openTo_get (opp bits) hi]
        rcases bit_at (opp_bits hball) (j := i) (by rw [opp_length]; exact hi) with e | e <;> rw [e]
        · exact OKT.out.l i (by omega) (by omega) (by omega)
        · exact OKT.out.r i (by omega) (by omega) (by omega)
      have hMO : MxOK (mixTo key s t s.length) := ⟨fun i hi => by
          have hi' : i < s.length := by simpa [mixTo] using hi
          rw [show (mixTo key s t s.length).l.getD i default = comN tagL (ogL t i) from map_range_get (fun j => comN tagL (ogL t j)) hi']
          exact comN_length _ _, fun i hi => by
          have hi' : i < s.length := by simpa [mixTo] using hi
          rw [show (mixTo key s t s.length).r.getD i default = comN tagR (ogR t i) from map_range_get (fun j => comN tagR (ogR t j)) hi']
          exact comN_length _ _⟩
      obtain ⟨OL, hOLe⟩ : ∃ OL, openTo t bits bits.length = OL := ⟨_, rfl⟩
      obtain ⟨OO, hOOe⟩ : ∃ OO, openTo t (opp bits) bits.length = OO := ⟨_, rfl⟩
      obtain ⟨PM, hPMe⟩ : ∃ PM, goTo t.l t.r = PM := ⟨_, rfl⟩
      obtain ⟨M, hMe⟩ : ∃ M, mixTo key s t s.length = M := ⟨_, rfl⟩
      rw [hOLe] at OP1 WHL CK1 hOL
      rw [hOOe] at OP2 WHL CK2 hOO
      rw [hPMe] at WHL TR HAT PRM hpl
      rw [hMe] at MKs CK1 CK2 HAT hmo hMO
      have CA := Lib.hid (fun (y : MxA) v v1 W (hb : Below w.heap.size w W) hm hbt hl => check_any key y M bits OL v v1 W (HT.out.below hb) hm hbt hl hMO hOL)
      have CB := Lib.hid (fun (y : MxA) v v1 W (hb : Below w.heap.size w W) hm hbt hl => check_any key y M (opp bits) OO v v1 W (HT.out.below hb) hm hbt hl hMO hOO)
      rw [CK1] at CA
      rw [CK2] at CB
      have SI := Lib.hid (fun v v2 W h h2 => sameints14_any PM v v2 W _ (Nat.le_refl _) h h2)
      have PP := Lib.hid (fun v W h => rperm_any PM v W h)
      rw [PRM.out] at PP
      have HOK := Lib.hid hok
      have HSG := Lib.hid hsg
      have HSL := Lib.hid hsl
      have HMO := Lib.hid hmo
      have HPL := Lib.hid hpl
      clear hok hsg hsl hsk hball hbl hrs hrb hrob hoo CK1 CK2 hpf hpl hmo hOL hOO hMO hOLe hOOe hPMe hMe MK OP hi hz0 hz1 hz2 hj hy0 hy1 hy2 SE

      unfold MxA.cells at MKs CA CB
      have k1 : Kp fun W' => (((Below w.heap.size w W' ∧ Row W' w.heap.size 26 [.slice al t.l.length cl, .slice ar t.r.length cr, .slice arl t.rl.length crl, .slice arr t.rr.length crr, .slice at_ t.s.length ct]) ∧ TnS W' W'.heap.size ⟨al, cl, ar, cr, arl, crl, arr, crr, at_, ct⟩ t ∧ SlG 3 Tr.cells W' W'.heap.size (.slice A1 ws.length c1) ws ∧ SlG 3 Tr.cells W' W'.heap.size (.slice A2 qs.length c2) qs) ∧ SlS W' W'.heap.size (.slice A14 s.length c14) s ∧ SlI W' W'.heap.size (.slice A15 bits.length c15) bits) := by intro W W' hb ⟨a, b, c⟩; exact ⟨k0 hb a, Kp.sl hb b, Kp.sl hb c⟩
      have h1 : (fun W' => (((Below w.heap.size w W' ∧ Row W' w.heap.size 26 [.slice al t.l.length cl, .slice ar t.r.length cr, .slice arl t.rl.length crl, .slice arr t.rr.length crr, .slice at_ t.s.length ct]) ∧ TnS W' W'.heap.size ⟨al, cl, ar, cr, arl, crl, arr, crr, at_, ct⟩ t ∧ SlG 3 Tr.cells W' W'.heap.size (.slice A1 ws.length c1) ws ∧ SlG 3 Tr.cells W' W'.heap.size (.slice A2 qs.length c2) qs) ∧ SlS W' W'.heap.size (.slice A14 s.length c14) s ∧ SlI W' W'.heap.size (.slice A15 bits.length c15) bits)) wr := ⟨h0, r14, r15⟩
      clear h0 r14 r15 k0
      obtain ⟨e0, e1, e2, e3, e4⟩ := st5c h1.1.1.2
      go_upto_region 19 with (go_at_call 34; (with_reducible refine (MKs.out _ _ h1.1.1.1 h1.1.2.1 h1.2.1).mono ?_); rintro e w18 ⟨y, rfl, hb, hy⟩; replace h1 := k1 hb h1; clear hb)
      clear e0 e1 e2 e3 e4
      have rM := Row.new w18 45 [.slice y.ai M.i.length y.ci, .slice y.am M.m.length y.cm, .slice y.ao M.o.length y.co, .slice y.al M.l.length y.cl, .slice y.ar M.r.length y.cr]
      have hb := below_alloc' w18 (.cells #[.slice y.ai M.i.length y.ci, .slice y.am M.m.length y.cm, .slice y.ao M.o.length y.co, .slice y.al M.l.length y.cl, .slice y.ar M.r.length y.cr] 45)
      obtain ⟨W18, hV⟩ : ∃ V, w18.alloc (.cells #[.slice y.ai M.i.length y.ci, .slice y.am M.m.length y.cm, .slice y.ao M.o.length y.co, .slice y.al M.l.length y.cl, .slice y.ar M.r.length y.cr] 45) = V := ⟨_, rfl⟩
      replace rM : Row W18 w18.heap.size 45 [.slice y.ai M.i.length y.ci, .slice y.am M.m.length y.cm, .slice y.ao M.o.length y.co, .slice y.al M.l.length y.cl, .slice y.ar M.r.length y.cr] := hV ▸ rM
      rw [hV] at hb ⊢
      clear hV
      replace h1 := k1 hb h1
      replace hy := Kp.mx hb hy
      clear hb
      generalize w18.heap.size = g20 at rM ⊢
      have k2 : Kp fun W' => ((((Below w.heap.size w W' ∧ Row W' w.heap.size 26 [.slice al t.l.length cl, .slice ar t.r.length cr, .slice arl t.rl.length crl, .slice arr t.rr.length crr, .slice at_ t.s.length ct]) ∧ TnS W' W'.heap.size ⟨al, cl, ar, cr, arl, crl, arr, crr, at_, ct⟩ t ∧ SlG 3 Tr.cells W' W'.heap.size (.slice A1 ws.length c1) ws ∧ SlG 3 Tr.cells W' W'.heap.size (.slice A2 qs.length c2) qs) ∧ SlS W' W'.heap.size (.slice A14 s.length c14) s ∧ SlI W' W'.heap.size (.slice A15 bits.length c15) bits) ∧ Row W' g20 45 [.slice y.ai M.i.length y.ci, .slice y.am M.m.length y.cm, .slice y.ao M.o.length y.co, .slice y.al M.l.length y.cl, .slice y.ar M.r.length y.cr] ∧ MxS W' W'.heap.size y M) := by intro W W' hb ⟨a, b, c⟩; exact ⟨k1 hb a, Kp.row hb b, Kp.mx hb c⟩
      have h2 : (fun W' => ((((Below w.heap.size w W' ∧ Row W' w.heap.size 26 [.slice al t.l.length cl, .slice ar t.r.length cr, .slice arl t.rl.length crl, .slice arr t.rr.length crr, .slice at_ t.s.length ct]) ∧ TnS W' W'.heap.size ⟨al, cl, ar, cr, arl, crl, arr, crr, at_, ct⟩ t ∧ SlG 3 Tr.cells W' W'.heap.size (.slice A1 ws.length c1) ws ∧ SlG 3 Tr.cells W' W'.heap.size (.slice A2 qs.length c2) qs) ∧ SlS W' W'.heap.size (.slice A14 s.length c14) s ∧ SlI W' W'.heap.size (.slice A15 bits.length c15) bits) ∧ Row W' g20 45 [.slice y.ai M.i.length y.ci, .slice y.am M.m.length y.cm, .slice y.ao M.o.length y.co, .slice y.al M.l.length y.cl, .slice y.ar M.r.length y.cr] ∧ MxS W' W'.heap.size y M)) W18 := ⟨h1, rM, hy⟩
      clear h1 rM hy k1
      obtain ⟨e0, e1, e2, e3, e4⟩ := st5c h2.1.1.1.2
      go_upto_region 20 with (go_at_call 13; (with_reducible refine (OP1.out _ _ h2.1.1.2.1 h2.1.2.2).mono ?_); rintro e w19 ⟨vl, rfl, hb, hvl⟩; replace h2 := k2 hb h2; clear hb)
      clear e0 e1 e2 e3 e4
      have k3 : Kp fun W' => (((((Below w.heap.size w W' ∧ Row W' w.heap.size 26 [.slice al t.l.length cl, .slice ar t.r.length cr, .slice arl t.rl.length crl, .slice arr t.rr.length crr, .slice at_ t.s.length ct]) ∧ TnS W' W'.heap.size ⟨al, cl, ar, cr, arl, crl, arr, crr, at_, ct⟩ t ∧ SlG 3 Tr.cells W' W'.heap.size (.slice A1 ws.length c1) ws ∧ SlG 3 Tr.cells W' W'.heap.size (.slice A2 qs.length c2) qs) ∧ SlS W' W'.heap.size (.slice A14 s.length c14) s ∧ SlI W' W'.heap.size (.slice A15 bits.length c15) bits) ∧ Row W' g20 45 [.slice y.ai M.i.length y.ci, .slice y.am M.m.length y.cm, .slice y.ao M.o.length y.co, .slice y.al M.l.length y.cl, .slice y.ar M.r.length y.cr] ∧ MxS W' W'.heap.size y M) ∧ SlG 36 Og.cells W' W'.heap.size vl OL) := by intro W W' hb ⟨a, b⟩; exact ⟨k2 hb a, Kp.sl hb b⟩
      have h3 : (fun W' => (((((Below w.heap.size w W' ∧ Row W' w.heap.size 26 [.slice al t.l.length cl, .slice ar t.r.length cr, .slice arl t.rl.length crl, .slice arr t.rr.length crr, .slice at_ t.s.length ct]) ∧ TnS W' W'.heap.size ⟨al, cl, ar, cr, arl, crl, arr, crr, at_, ct⟩ t ∧ SlG 3 Tr.cells W' W'.heap.size (.slice A1 ws.length c1) ws ∧ SlG 3 Tr.cells W' W'.heap.size (.slice A2 qs.length c2) qs) ∧ SlS W' W'.heap.size (.slice A14 s.length c14) s ∧ SlI W' W'.heap.size (.slice A15 bits.length c15) bits) ∧ Row W' g20 45 [.slice y.ai M.i.length y.ci, .slice y.am M.m.length y.cm, .slice y.ao M.o.length y.co, .slice y.al M.l.length y.cl, .slice y.ar M.r.length y.cr] ∧ MxS W' W'.heap.size y M) ∧ SlG 36 Og.cells W' W'.heap.size vl OL)) w19 := ⟨h2, hvl⟩
      clear h2 hvl k2
      go_cut [24, 25] from 114 to 120 (fun a b W' => b = .int .i64 0 ∧ ∃ vo, a = vo ∧ ((((((Below w.heap.size w W' ∧ Row W' w.heap.size 26 [.slice al t.l.length cl, .slice ar t.r.length cr, .slice arl t.rl.length crl, .slice arr t.rr.length crr, .slice at_ t.s.length ct]) ∧ TnS W' W'.heap.size ⟨al, cl, ar, cr, arl, crl, arr, crr, at_, ct⟩ t ∧ SlG 3 Tr.cells W' W'.heap.size (.slice A1 ws.length c1) ws ∧ SlG 3 Tr.cells W' W'.heap.size (.slice A2 qs.length c2) qs) ∧ SlS W' W'.heap.size (.slice A14 s.length c14) s ∧ SlI W' W'.heap.size (.slice A15 bits.length c15) bits) ∧ Row W' g20 45 [.slice y.ai M.i.length y.ci, .slice y.am M.m.length y.cm, .slice y.ao M.o.length y.co, .slice y.al M.l.length y.cl, .slice y.ar M.r.length y.cr] ∧ MxS W' W'.heap.size y M) ∧ SlG 36 Og.cells W' W'.heap.size vl OL) ∧ SlG 36 Og.cells W' W'.heap.size vo OO))
      case first =>
        refine wp_region_tree 8 (.take 0 (.take 1 (.one 2 (.one 3 (.take 4 (.take 5 (.take 6 (.one 7 .done))))))))
          (fun W' => (((((Below w.heap.size w W' ∧ Row W' w.heap.size 26 [.slice al t.l.length cl, .slice ar t.r.length cr, .slice arl t.rl.length crl, .slice arr t.rr.length crr, .slice at_ t.s.length ct]) ∧ TnS W' W'.heap.size ⟨al, cl, ar, cr, arl, crl, arr, crr, at_, ct⟩ t ∧ SlG 3 Tr.cells W' W'.heap.size (.slice A1 ws.length c1) ws ∧ SlG 3 Tr.cells W' W'.heap.size (.slice A2 qs.length c2) qs) ∧ SlS W' W'.heap.size (.slice A14 s.length c14) s ∧ SlI W' W'.heap.size (.slice A15 bits.length c15) bits) ∧ Row W' g20 45 [.slice y.ai M.i.length y.ci, .slice y.am M.m.length y.cm, .slice y.ao M.o.length y.co, .slice y.al M.l.length y.cl, .slice y.ar M.r.length y.cr] ∧ MxS W' W'.heap.size y M) ∧ SlG 36 Og.cells W' W'.heap.size vl OL)) (by kernel_rfl) (by kernel_rfl) (fun _ _ d _ _ h => by cases d <;> exact h) (k3 (Below.refl _ _).drew h3) ?_
        replace h3 := k3 (Below.refl _ _).drew h3
        generalize w19.drew = V1 at *
        iterate 2
          refine wpTree_take (v := ?_) rfl (by kernel_rfl) (fun w hSw => ?_) ?_
          rotate_left 1
          · obtain ⟨e0, e1, e2, e3, e4⟩ := st5c hSw.1.1.1.1.2
            go_simp
            with_reducible rfl
          simp only [Act.put, List.setIfInBounds_toArray, List.set_cons_zero, List.set_cons_succ]
        refine wpTree_one rfl (fun K hK => ⟨by kernel_rfl, ?_⟩)
        go_simp
        go_at_call 23
        refine (OPP.out _ _ h3.1.1.2.2).mono ?_
        rintro e V2 ⟨vb, rfl, hb, hvb⟩
        replace h3 := k3 hb h3
        refine hK _ _ h3 ?_
        clear hK K hb
        try simp only [Act.put, List.setIfInBounds_toArray, List.set_cons_zero, List.set_cons_succ]
        refine wpTree_one rfl (fun K hK => ⟨by kernel_rfl, ?_⟩)
        go_simp
        go_at_call 13
        refine (OP2.out _ _ h3.1.1.1.2.1 hvb).mono ?_
        rintro e V3 ⟨vo, rfl, hb, hvo⟩
        replace h3 := k3 hb h3
        refine hK _ _ h3 ?_
        clear hK K hb
        try simp only [Act.put, List.setIfInBounds_toArray, List.set_cons_zero, List.set_cons_succ]
        iterate 3
          refine wpTree_take (v := ?_) rfl (by kernel_rfl) (fun w hSw => ?_) ?_
          rotate_left 1
          · go_simp
            with_reducible rfl
          simp only [Act.put, List.setIfInBounds_toArray, List.set_cons_zero, List.set_cons_succ]
        refine wpTree_one rfl (fun K hK => ⟨by kernel_rfl, ?_⟩)
        go_simp
        refine hK _ _ h3 ?_
        clear hK K
        try simp only [Act.put, List.setIfInBounds_toArray, List.set_cons_zero, List.set_cons_succ]
        refine wpTree_done ?_
        simp only [List.drop_succ_cons, List.drop_zero]
        go_wp2_with fail
        go_meet
        exact ⟨rfl, vo, rfl, h3, hvo⟩
      case rest =>
      clear h3
      obtain ⟨rfl, vo, rfl, h4⟩ := hcut
      have k4 : Kp fun W' => ((((((Below w.heap.size w W' ∧ Row W' w.heap.size 26 [.slice al t.l.length cl, .slice ar t.r.length cr, .slice arl t.rl.length crl, .slice arr t.rr.length crr, .slice at_ t.s.length ct]) ∧ TnS W' W'.heap.size ⟨al, cl, ar, cr, arl, crl, arr, crr, at_, ct⟩ t ∧ SlG 3 Tr.cells W' W'.heap.size (.slice A1 ws.length c1) ws ∧ SlG 3 Tr.cells W' W'.heap.size (.slice A2 qs.length c2) qs) ∧ SlS W' W'.heap.size (.slice A14 s.length c14) s ∧ SlI W' W'.heap.size (.slice A15 bits.length c15) bits) ∧ Row W' g20 45 [.slice y.ai M.i.length y.ci, .slice y.am M.m.length y.cm, .slice y.ao M.o.length y.co, .slice y.al M.l.length y.cl, .slice y.ar M.r.length y.cr] ∧ MxS W' W'.heap.size y M) ∧ SlG 36 Og.cells W' W'.heap.size vl OL) ∧ SlG 36 Og.cells W' W'.heap.size u24 OO) := by intro W W' hb ⟨a, b⟩; exact ⟨k3 hb a, Kp.sl hb b⟩
      obtain ⟨e0, e1, e2, e3, e4⟩ := st5c h4.1.1.1.1.1.2
      go_upto_region 22 with (go_at_call 15; (with_reducible refine (TR.out _ h4.1.1.1.1.2.1).mono ?_); rintro e w21 ⟨vp, rfl, hb, hvp⟩; replace h4 := k4 hb h4; clear hb)
      clear e0 e1 e2 e3 e4
      have k5 : Kp fun W' => (((((((Below w.heap.size w W' ∧ Row W' w.heap.size 26 [.slice al t.l.length cl, .slice ar t.r.length cr, .slice arl t.rl.length crl, .slice arr t.rr.length crr, .slice at_ t.s.length ct]) ∧ TnS W' W'.heap.size ⟨al, cl, ar, cr, arl, crl, arr, crr, at_, ct⟩ t ∧ SlG 3 Tr.cells W' W'.heap.size (.slice A1 ws.length c1) ws ∧ SlG 3 Tr.cells W' W'.heap.size (.slice A2 qs.length c2) qs) ∧ SlS W' W'.heap.size (.slice A14 s.length c14) s ∧ SlI W' W'.heap.size (.slice A15 bits.length c15) bits) ∧ Row W' g20 45 [.slice y.ai M.i.length y.ci, .slice y.am M.m.length y.cm, .slice y.ao M.o.length y.co, .slice y.al M.l.length y.cl, .slice y.ar M.r.length y.cr] ∧ MxS W' W'.heap.size y M) ∧ SlG 36 Og.cells W' W'.heap.size vl OL) ∧ SlG 36 Og.cells W' W'.heap.size u24 OO) ∧ SlI W' W'.heap.size vp PM) := by intro W W' hb ⟨a, b⟩; exact ⟨k4 hb a, Kp.sl hb b⟩
      have h5 : (fun W' => (((((((Below w.heap.size w W' ∧ Row W' w.heap.size 26 [.slice al t.l.length cl, .slice ar t.r.length cr, .slice arl t.rl.length crl, .slice arr t.rr.length crr, .slice at_ t.s.length ct]) ∧ TnS W' W'.heap.size ⟨al, cl, ar, cr, arl, crl, arr, crr, at_, ct⟩ t ∧ SlG 3 Tr.cells W' W'.heap.size (.slice A1 ws.length c1) ws ∧ SlG 3 Tr.cells W' W'.heap.size (.slice A2 qs.length c2) qs) ∧ SlS W' W'.heap.size (.slice A14 s.length c14) s ∧ SlI W' W'.heap.size (.slice A15 bits.length c15) bits) ∧ Row W' g20 45 [.slice y.ai M.i.length y.ci, .slice y.am M.m.length y.cm, .slice y.ao M.o.length y.co, .slice y.al M.l.length y.cl, .slice y.ar M.r.length y.cr] ∧ MxS W' W'.heap.size y M) ∧ SlG 36 Og.cells W' W'.heap.size vl OL) ∧ SlG 36 Og.cells W' W'.heap.size u24 OO) ∧ SlI W' W'.heap.size vp PM)) w21 := ⟨h4, hvp⟩
      clear h4 hvp k4
      go_upto_region 23 with (go_at_call 19; (with_reducible refine (WHL.out _ _ _ _ h5.1.1.1.1.2.2 h5.1.1.2 h5.1.2).mono ?_); rintro e w22 ⟨vw, rfl, hb, hvw⟩; replace h5 := k5 hb h5; clear hb)
      have k6 : Kp fun W' => ((((((((Below w.heap.size w W' ∧ Row W' w.heap.size 26 [.slice al t.l.length cl, .slice ar t.r.length cr, .slice arl t.rl.length crl, .slice arr t.rr.length crr, .slice at_ t.s.length ct]) ∧ TnS W' W'.heap.size ⟨al, cl, ar, cr, arl, crl, arr, crr, at_, ct⟩ t ∧ SlG 3 Tr.cells W' W'.heap.size (.slice A1 ws.length c1) ws ∧ SlG 3 Tr.cells W' W'.heap.size (.slice A2 qs.length c2) qs) ∧ SlS W' W'.heap.size (.slice A14 s.length c14) s ∧ SlI W' W'.heap.size (.slice A15 bits.length c15) bits) ∧ Row W' g20 45 [.slice y.ai M.i.length y.ci, .slice y.am M.m.length y.cm, .slice y.ao M.o.length y.co, .slice y.al M.l.length y.cl, .slice y.ar M.r.length y.cr] ∧ MxS W' W'.heap.size y M) ∧ SlG 36 Og.cells W' W'.heap.size vl OL) ∧ SlG 36 Og.cells W' W'.heap.size u24 OO) ∧ SlI W' W'.heap.size vp PM) ∧ SlI W' W'.heap.size vw PM) := by intro W W' hb ⟨a, b⟩; exact ⟨k5 hb a, Kp.sl hb b⟩
      have h6 : (fun W' => ((((((((Below w.heap.size w W' ∧ Row W' w.heap.size 26 [.slice al t.l.length cl, .slice ar t.r.length cr, .slice arl t.rl.length crl, .slice arr t.rr.length crr, .slice at_ t.s.length ct]) ∧ TnS W' W'.heap.size ⟨al, cl, ar, cr, arl, crl, arr, crr, at_, ct⟩ t ∧ SlG 3 Tr.cells W' W'.heap.size (.slice A1 ws.length c1) ws ∧ SlG 3 Tr.cells W' W'.heap.size (.slice A2 qs.length c2) qs) ∧ SlS W' W'.heap.size (.slice A14 s.length c14) s ∧ SlI W' W'.heap.size (.slice A15 bits.length c15) bits) ∧ Row W' g20 45 [.slice y.ai M.i.length y.ci, .slice y.am M.m.length y.cm, .slice y.ao M.o.length y.co, .slice y.al M.l.length y.cl, .slice y.ar M.r.length y.cr] ∧ MxS W' W'.heap.size y M) ∧ SlG 36 Og.cells W' W'.heap.size vl OL) ∧ SlG 36 Og.cells W' W'.heap.size u24 OO) ∧ SlI W' W'.heap.size vp PM) ∧ SlI W' W'.heap.size vw PM)) w22 := ⟨h5, hvw⟩
      clear h5 hvw k5
      obtain ⟨_, AP, cP, rfl, _⟩ := id h6.1.2
      have q1 : ((PM.length : Int) != ws.length) = false := by rw [HPL.out]; simp
      have q2 : ((M.o.length : Int) != ws.length) = false := by rw [HMO.out, HSL.out]; simp
      obtain ⟨m0, m1, m2, m3, m4⟩ := st5c h6.1.1.1.1.2.1
      go_upto_region 25 with (go_at_call 18; (with_reducible refine (SI.out _ _ _ h6.1.2 h6.2).mono ?_); rintro e w23 ⟨rfl, hb⟩; replace h6 := k6 hb h6; clear hb)
      clear m0 m1 m2 m3 m4 q1 q2
      go_cut [193] from 174 to 193 (fun v W' => v = .bool false ∧ ((((((((Below w.heap.size w W' ∧ Row W' w.heap.size 26 [.slice al t.l.length cl, .slice ar t.r.length cr, .slice arl t.rl.length crl, .slice arr t.rr.length crr, .slice at_ t.s.length ct]) ∧ TnS W' W'.heap.size ⟨al, cl, ar, cr, arl, crl, arr, crr, at_, ct⟩ t ∧ SlG 3 Tr.cells W' W'.heap.size (.slice A1 ws.length c1) ws ∧ SlG 3 Tr.cells W' W'.heap.size (.slice A2 qs.length c2) qs) ∧ SlS W' W'.heap.size (.slice A14 s.length c14) s ∧ SlI W' W'.heap.size (.slice A15 bits.length c15) bits) ∧ Row W' g20 45 [.slice y.ai M.i.length y.ci, .slice y.am M.m.length y.cm, .slice y.ao M.o.length y.co, .slice y.al M.l.length y.cl, .slice y.ar M.r.length y.cr] ∧ MxS W' W'.heap.size y M) ∧ SlG 36 Og.cells W' W'.heap.size vl OL) ∧ SlG 36 Og.cells W' W'.heap.size u24 OO) ∧ SlI W' W'.heap.size (.slice AP PM.length cP) PM) ∧ SlI W' W'.heap.size vw PM))
      case first =>
        refine wp_region_tree 19 (.take 0 (.take 1 (.take 2 (.take 3 (.one 4 (.take 5 (.take 6 (.take 7 (.take 8 (.take 9 (.take 11 (.one 10 (.one 12 (.take 13 (.take 14 (.take 15 (.take 16 (.one 17 (.take 18 .done)))))))))))))))))))
          (fun W' => ((((((((Below w.heap.size w W' ∧ Row W' w.heap.size 26 [.slice al t.l.length cl, .slice ar t.r.length cr, .slice arl t.rl.length crl, .slice arr t.rr.length crr, .slice at_ t.s.length ct]) ∧ TnS W' W'.heap.size ⟨al, cl, ar, cr, arl, crl, arr, crr, at_, ct⟩ t ∧ SlG 3 Tr.cells W' W'.heap.size (.slice A1 ws.length c1) ws ∧ SlG 3 Tr.cells W' W'.heap.size (.slice A2 qs.length c2) qs) ∧ SlS W' W'.heap.size (.slice A14 s.length c14) s ∧ SlI W' W'.heap.size (.slice A15 bits.length c15) bits) ∧ Row W' g20 45 [.slice y.ai M.i.length y.ci, .slice y.am M.m.length y.cm, .slice y.ao M.o.length y.co, .slice y.al M.l.length y.cl, .slice y.ar M.r.length y.cr] ∧ MxS W' W'.heap.size y M) ∧ SlG 36 Og.cells W' W'.heap.size vl OL) ∧ SlG 36 Og.cells W' W'.heap.size u24 OO) ∧ SlI W' W'.heap.size (.slice AP PM.length cP) PM) ∧ SlI W' W'.heap.size vw PM)) (by kernel_rfl) (by kernel_rfl) (fun _ _ d _ _ h => by cases d <;> exact h) (k6 (Below.refl _ _).drew h6) ?_
        replace h6 := k6 (Below.refl _ _).drew h6
        generalize w23.drew = V1 at *
        iterate 4
          refine wpTree_take (v := ?_) rfl (by kernel_rfl) (fun w hSw => ?_) ?_
          rotate_left 1
          · obtain ⟨m0, m1, m2, m3, m4⟩ := st5c hSw.1.1.1.1.2.1
            go_simp
            with_reducible rfl
          simp only [Act.put, List.setIfInBounds_toArray, List.set_cons_zero, List.set_cons_succ]
        refine wpTree_one rfl (fun K hK => ⟨by kernel_rfl, ?_⟩)
        go_simp
        go_at_call 22
        refine (CA.out _ _ _ _ h6.1.1.1.1.1.1.1.1 h6.1.1.1.1.2.2 h6.1.1.1.1.1.2.2 h6.1.1.1.2).mono ?_
        rintro e V2 ⟨rfl, hb⟩
        replace h6 := k6 hb h6
        refine hK _ _ h6 ?_
        clear hK K hb
        try simp only [Act.put, List.setIfInBounds_toArray, List.set_cons_zero, List.set_cons_succ]
        iterate 6
          refine wpTree_take (v := ?_) rfl (by kernel_rfl) (fun w hSw => ?_) ?_
          rotate_left 1
          · obtain ⟨m0, m1, m2, m3, m4⟩ := st5c hSw.1.1.1.1.2.1
            go_simp
            with_reducible rfl
          simp only [Act.put, List.setIfInBounds_toArray, List.set_cons_zero, List.set_cons_succ]
        refine wpTree_one rfl (fun K hK => ⟨by kernel_rfl, ?_⟩)
        go_simp
        go_at_call 23
        refine (OPP.out _ _ h6.1.1.1.1.1.2.2).mono ?_
        rintro e V3 ⟨vb, rfl, hb, hvb⟩
        replace h6 := k6 hb h6
        refine hK _ _ h6 ?_
        clear hK K hb
        try simp only [Act.put, List.setIfInBounds_toArray, List.set_cons_zero, List.set_cons_succ]
        refine wpTree_one rfl (fun K hK => ⟨by kernel_rfl, ?_⟩)
        go_simp
        go_at_call 22
        refine (CB.out _ _ _ _ h6.1.1.1.1.1.1.1.1 h6.1.1.1.1.2.2 hvb h6.1.1.2).mono ?_
        rintro e V4 ⟨rfl, hb⟩
        replace h6 := k6 hb h6
        refine hK _ _ h6 ?_
        clear hK K hb
        try simp only [Act.put, List.setIfInBounds_toArray, List.set_cons_zero, List.set_cons_succ]
        iterate 4
          refine wpTree_take (v := ?_) rfl (by kernel_rfl) (fun w hSw => ?_) ?_
          rotate_left 1
          · obtain ⟨m0, m1, m2, m3, m4⟩ := st5c hSw.1.1.1.1.2.1
            go_simp
            with_reducible rfl
          simp only [Act.put, List.setIfInBounds_toArray, List.set_cons_zero, List.set_cons_succ]
        refine wpTree_one rfl (fun K hK => ⟨by kernel_rfl, ?_⟩)
        go_simp
        go_at_call 25
        refine (PP.out _ _ h6.1.2).mono ?_
        rintro e V5 ⟨rfl, hb⟩
        replace h6 := k6 hb h6
        refine hK _ _ h6 ?_
        clear hK K hb
        try simp only [Act.put, List.setIfInBounds_toArray, List.set_cons_zero, List.set_cons_succ]
        refine wpTree_take (v := ?_) rfl (by kernel_rfl) (fun w hSw => ?_) ?_
        rotate_left 1
        · obtain ⟨m0, m1, m2, m3, m4⟩ := st5c hSw.1.1.1.1.2.1
          go_simp
          with_reducible rfl
        simp only [Act.put, List.setIfInBounds_toArray, List.set_cons_zero, List.set_cons_succ]
        refine wpTree_done ?_
        simp only [List.drop_succ_cons, List.drop_zero]
        go_wp2_with fail
        go_meet
        exact ⟨rfl, h6⟩
      case rest =>
      clear h6
      obtain ⟨rfl, h6⟩ := hcut
      clear MKs OP1 OP2 OPP WHL TR CA CB SI PP PRM
      obtain ⟨W25, rfl⟩ : ∃ W : World, W = wc := ⟨_, rfl⟩
      have hb25 := h6.1.1.1.1.1.1.1.1
      have rX := h6.1.1.1.1.2.1
      have mX := h6.1.1.1.1.2.2
      have pX := h6.1.2
      have wX := h6.1.1.1.1.1.1.2.2.1
      clear h6 k6
      go_wp2_with fail
      go_loopg [196] ws.length (fun g i wr => ∃ k : Nat, i = .int .i64 k ∧ k + g = ws.length ∧ Below W25.heap.size W25 wr)
      case atStart => exact ⟨0, rfl, by omega, Below.refl _ _⟩
      case round =>
        obtain ⟨k, rfl, hkg, hBr⟩ := hrel
        by_cases hlt : k < ws.length
        · obtain ⟨b1, o1, a1, hb1, d1⟩ := sl_at (wX.below hBr) hlt
          obtain ⟨b2, o2, a2, hb2, d2⟩ := sl_at (pX.below hBr) (j := k) (by have := HPL.out; omega)
          obtain ⟨j0, hj0, ht1, ht2, ht3⟩ := HAT.out k (by have := HSL.out; omega)
          rw [HSG.out k hlt] at ht3
          have hpm : ∃ pm : Nat, PM.getD k default = pm := ⟨(PM.getD k default).toNat, by omega⟩
          obtain ⟨pm, hpm⟩ := hpm
          rw [hpm] at ht1 ht3
          simp only [Int.toNat_natCast] at ht1 ht3
          obtain ⟨b3, o3, a3, hb3, d3⟩ := sl_at (mX.o.below hBr) (j := pm) (by have := HMO.out; omega)
          try simp only at a3
          have HA3 := Lib.hid a3
          clear a3
          have hwk := HOK.out k hlt
          have f10 : wr.cell? ⟨b1, o1 + k * 3, none⟩ = some (.int .i64 (ws.getD k default).p) := d1 0 (by omega)
          have f11 : wr.cell? ⟨b1, o1 + k * 3 + 1, none⟩ = some (.int .i64 (ws.getD k default).q) := d1 1 (by omega)
          have f12 : wr.cell? ⟨b1, o1 + k * 3 + 2, none⟩ = some (.int .i64 (ws.getD k default).r) := d1 2 (by omega)
          have f2 := d2 0 (by omega)
          simp only [encI, hpm, List.getD_cons_zero, Nat.add_zero, Nat.mul_one] at f2
          have rg3 : wr.rangeAt b3 (o3 + pm * 6) (encS (M.o.getD pm default)) := range_sl d3 rfl
          rw [← HKEY.out.2, lh_again secret hwk, lh_again secret hwk] at ht3
          obtain ⟨qq, hqq⟩ : ∃ qq, addT (addT (qs.getD k default) (t.rl.getD j0 default)) (t.rr.getD j0 default) = qq := ⟨_, rfl⟩
          rw [hqq] at ht3
          have SP := fun W => strp_any secret (M.o.getD pm default) W
          have RD := fun W => read_any (strpC secret (M.o.getD pm default)) W
          have e1 := lh_strip HS.out hwk qq
          have e2 := lh_read hwk qq
          have e3 : chS (LH 0 (ws.getD k default) qq) = 0 := chS_0 (lh_seal 0 hwk qq).2.2
          rw [← ht3] at e1
          rw [e1.2] at SP
          rw [e1.1, e2, e3] at RD
          rw [e1.1] at SP
          have bq : ∀ w, (Op.equalIn 10000 79 (ws.getD k default).val (ws.getD k default).val).run Tryd.prog w = .ok true w := fun w => by
            have := runT (ws.getD k default) (ws.getD k default) w
            rwa [show eqTr (ws.getD k default) (ws.getD k default) = true by simp [eqTr]] at this
          generalize LH 0 (ws.getD k default) qq = Y at *
          generalize M.o.getD pm default = X at *
          generalize ws.getD k default = wk at *
          unfold Se.val at SP RD
          unfold Tr.val at RD bq
          have SPk := Lib.hid SP
          have RDk := Lib.hid RD
          clear SP RD e1 e2 e3 ht3 hqq hwk d1 d2 d3
          subst a1 a2
          have s1 : (0 : Int) ≤ k := by omega
          have s2 : (k : Int) < ws.length := by omega
          have s3 : (k : Int) < PM.length := by have := HPL.out; omega
          have s4 : (0 : Int) ≤ pm := by omega
          have s5 : (pm : Int) < M.o.length := by have := HMO.out; omega
          have hb2r : b2 < wr.heap.size := by have := hBr.size; omega
          have hb3r : b3 < wr.heap.size := by have := hBr.size; omega
          go_upto_region 30 with fail
          have rW := Row.new wr 79 [.int .i64 wk.p, .int .i64 wk.q, .int .i64 wk.r]
          have hbn := below_alloc' wr (.cells #[.int .i64 wk.p, .int .i64 wk.q, .int .i64 wk.r] 79)
          have hBc := hBr.alloc hBr.size (.cells #[.int .i64 wk.p, .int .i64 wk.q, .int .i64 wk.r] 79)
          obtain ⟨Wc, hV⟩ : ∃ V, wr.alloc (.cells #[.int .i64 wk.p, .int .i64 wk.q, .int .i64 wk.r] 79) = V := ⟨_, rfl⟩
          replace rW : Row Wc wr.heap.size 79 [.int .i64 wk.p, .int .i64 wk.q, .int .i64 wk.r] := hV ▸ rW
          rw [hV] at hbn hBc ⊢
          clear hV f10 f11 f12
          replace rg3 := range_below rg3 hbn hb3r
          have fp : Wc.cell? ⟨b2, o2 + k, none⟩ = some (.int .i64 pm) := (hbn.cell (p := ⟨b2, o2 + k, none⟩) hb2r).trans f2
          have hb2c : b2 < Wc.heap.size := Nat.lt_of_lt_of_le hb2r hbn.size
          have hb3c : b3 < Wc.heap.size := Nat.lt_of_lt_of_le hb3r hbn.size
          clear f2 hbn
          generalize wr.heap.size = gW at rW ⊢
          have hC : ∀ W', Below Wc.heap.size Wc W' → W'.cell? ⟨g20, 2, none⟩ = some (.slice y.ao M.o.length y.co) ∧ W'.cell? ⟨b2, o2 + k, none⟩ = some (.int .i64 pm) ∧ W'.rangeAt b3 (o3 + pm * 6) (encS X) := fun W' h =>
            ⟨((rX.below hBc rX.lt).below h (rX.below hBc rX.lt).lt).cell 2, (h.cell (p := ⟨b2, o2 + k, none⟩) hb2c).trans fp, range_below rg3 h hb3c⟩
          have HC := Lib.hid hC
          clear hC rg3 fp
          rw [HA3.out] at HC
          go_cut [32, 33] from 201 to 213 (fun a b W' => b = .int .i64 0 ∧ ∃ G3, a = .pointer (some ⟨G3, 0, none⟩) ∧ Below Wc.heap.size Wc W' ∧ Row W' G3 68 [.int .i64 Y.x.a, .int .i64 Y.x.b, .int .i64 Y.y.a, .int .i64 Y.y.b, .int .i64 Y.z.a, .int .i64 Y.z.b])
          case first =>
            refine wp_region_tree 15 (.take 0 (.take 1 (.take 2 (.take 3 (.take 4 (.take 5 (.take 6 (.take 7 (.take 8 (.two 9 (.take 10 (.take 11 (.take 12 (.one 13 (.one 14 .done))))) 13 (.one 9 (.take 10 (.take 11 (.take 12 (.one 14 .done)))))))))))))))
              (fun W' => Below Wc.heap.size Wc W') (by kernel_rfl) (by kernel_rfl) (fun _ _ d _ _ h => by cases d <;> exact h) (Below.refl _ _).drew ?_
            have hb : Below Wc.heap.size Wc Wc.drew := (Below.refl _ _).drew
            generalize Wc.drew = V1 at *
            iterate 8
              refine wpTree_take (v := ?_) rfl (by kernel_rfl) (fun w hSw => ?_) ?_
              rotate_left 1
              · obtain ⟨n2, n3, _⟩ := HC.out _ hSw
                go_simp
                with_reducible rfl
              simp only [Act.put, List.setIfInBounds_toArray, List.set_cons_zero, List.set_cons_succ]
            refine wpTree_take (v := .agg #[.int .i64 X.x.a, .int .i64 X.x.b, .int .i64 X.y.a, .int .i64 X.y.b, .int .i64 X.z.a, .int .i64 X.z.b]) rfl (by kernel_rfl) (fun w hSw => exec_load (ty := 68) (x := .tmp 209) (p := .pointer (some ⟨b3, o3 + pm * 6, none⟩)) (by kernel_rfl) (by kernel_rfl) (run_loadAt_mid w b3 (o3 + pm * 6) 68 (encS X) _ (HC.out _ hSw).2.2 Tryd.underlying68 rfl (by kernel_rfl))) ?_
            simp only [Act.put, List.setIfInBounds_toArray, List.set_cons_zero, List.set_cons_succ]
            refine wpTree_two rfl rfl (fun K hK => ⟨by kernel_rfl, ?_⟩) (fun K hK => ⟨by kernel_rfl, ?_⟩)
            · skip
              go_simp
              go_at_call 38
              refine (SPk.out _).mono ?_
              rintro e V2 ⟨rfl, hbn⟩
              replace hb := hb.trans (hbn.mono hb.size)
              refine hK _ _ hb ?_
              clear hK K hbn
              try simp only [Act.put, List.setIfInBounds_toArray, List.set_cons_zero, List.set_cons_succ]
              iterate 3
                refine wpTree_take (v := ?_) rfl (by kernel_rfl) (fun w hSw => ?_) ?_
                rotate_left 1
                · go_simp
                  with_reducible rfl
                simp only [Act.put, List.setIfInBounds_toArray, List.set_cons_zero, List.set_cons_succ]
              refine wpTree_one rfl (fun K hK => ⟨by kernel_rfl, ?_⟩)
              go_simp
              have ra3 := Row.new V2 68 [.int .i64 0, .int .i64 0, .int .i64 0, .int .i64 0, .int .i64 0, .int .i64 0]
              have hbn := below_alloc' V2 (.cells #[.int .i64 0, .int .i64 0, .int .i64 0, .int .i64 0, .int .i64 0, .int .i64 0] 68)
              have hg3 := hb.size
              obtain ⟨V3, hV⟩ : ∃ V, V2.alloc (.cells #[.int .i64 0, .int .i64 0, .int .i64 0, .int .i64 0, .int .i64 0, .int .i64 0] 68) = V := ⟨_, rfl⟩
              replace ra3 : Row V3 V2.heap.size 68 [.int .i64 0, .int .i64 0, .int .i64 0, .int .i64 0, .int .i64 0, .int .i64 0] := hV ▸ ra3
              rw [hV] at hbn
              replace hb := hb.trans (hbn.mono hb.size)
              try rw [hV]
              clear hV
              refine hK _ _ hb ?_
              clear hK K hbn
              try simp only [Act.put, List.setIfInBounds_toArray, List.set_cons_zero, List.set_cons_succ]
              generalize V2.heap.size = G3 at ra3 hg3 ⊢
              refine wpTree_one rfl (fun K hK => ⟨by kernel_rfl, ?_⟩)
              obtain ⟨m0, m1, m2, m3, m4, m5⟩ := st6 ra3
              have ff := fun i => Row.frozen ra3 i
              go_simp
              have hr := ((((((ra3.store 0 (.int .i64 Y.x.a)).store 1 (.int .i64 Y.x.b)).store 2 (.int .i64 Y.y.a)).store 3 (.int .i64 Y.y.b)).store 4 (.int .i64 Y.z.a)).store 5 (.int .i64 Y.z.b))
              have hbs := ((((((hb.setCell (p := ⟨G3, 0, none⟩) hg3 (.int .i64 Y.x.a)).setCell (p := ⟨G3, 1, none⟩) hg3 (.int .i64 Y.x.b)).setCell (p := ⟨G3, 2, none⟩) hg3 (.int .i64 Y.y.a)).setCell (p := ⟨G3, 3, none⟩) hg3 (.int .i64 Y.y.b)).setCell (p := ⟨G3, 4, none⟩) hg3 (.int .i64 Y.z.a)).setCell (p := ⟨G3, 5, none⟩) hg3 (.int .i64 Y.z.b))
              refine hK _ _ hbs ?_
              clear hK K
              refine wpTree_done ?_
              simp only [List.drop_succ_cons, List.drop_zero]
              have FIN := Lib.hid (And.intro hbs hr)
              clear hbs hr m0 m1 m2 m3 m4 m5 ff ra3 hb
              go_wp2_with fail
              go_meet
              exact ⟨rfl, G3, rfl, FIN.out.1, FIN.out.2⟩
            · skip
              go_simp
              have ra3 := Row.new V1 68 [.int .i64 0, .int .i64 0, .int .i64 0, .int .i64 0, .int .i64 0, .int .i64 0]
              have hbn := below_alloc' V1 (.cells #[.int .i64 0, .int .i64 0, .int .i64 0, .int .i64 0, .int .i64 0, .int .i64 0] 68)
              have hg3 := hb.size
              obtain ⟨V2, hV⟩ : ∃ V, V1.alloc (.cells #[.int .i64 0, .int .i64 0, .int .i64 0, .int .i64 0, .int .i64 0, .int .i64 0] 68) = V := ⟨_, rfl⟩
              replace ra3 : Row V2 V1.heap.size 68 [.int .i64 0, .int .i64 0, .int .i64 0, .int .i64 0, .int .i64 0, .int .i64 0] := hV ▸ ra3
              rw [hV] at hbn
              replace hb := hb.trans (hbn.mono hb.size)
              try rw [hV]
              clear hV
              refine hK _ _ hb ?_
              clear hK K hbn
              try simp only [Act.put, List.setIfInBounds_toArray, List.set_cons_zero, List.set_cons_succ]
              generalize V1.heap.size = G3 at ra3 hg3 ⊢
              refine wpTree_one rfl (fun K hK => ⟨by kernel_rfl, ?_⟩)
              go_simp
              go_at_call 38
              refine (SPk.out _).mono ?_
              rintro e V3 ⟨rfl, hbn⟩
              replace hb := hb.trans (hbn.mono hb.size)
              replace ra3 := ra3.below hbn ra3.lt
              refine hK _ _ hb ?_
              clear hK K hbn
              try simp only [Act.put, List.setIfInBounds_toArray, List.set_cons_zero, List.set_cons_succ]
              iterate 3
                refine wpTree_take (v := ?_) rfl (by kernel_rfl) (fun w hSw => ?_) ?_
                rotate_left 1
                · go_simp
                  with_reducible rfl
                simp only [Act.put, List.setIfInBounds_toArray, List.set_cons_zero, List.set_cons_succ]
              refine wpTree_one rfl (fun K hK => ⟨by kernel_rfl, ?_⟩)
              obtain ⟨m0, m1, m2, m3, m4, m5⟩ := st6 ra3
              have ff := fun i => Row.frozen ra3 i
              go_simp
              have hr := ((((((ra3.store 0 (.int .i64 Y.x.a)).store 1 (.int .i64 Y.x.b)).store 2 (.int .i64 Y.y.a)).store 3 (.int .i64 Y.y.b)).store 4 (.int .i64 Y.z.a)).store 5 (.int .i64 Y.z.b))
              have hbs := ((((((hb.setCell (p := ⟨G3, 0, none⟩) hg3 (.int .i64 Y.x.a)).setCell (p := ⟨G3, 1, none⟩) hg3 (.int .i64 Y.x.b)).setCell (p := ⟨G3, 2, none⟩) hg3 (.int .i64 Y.y.a)).setCell (p := ⟨G3, 3, none⟩) hg3 (.int .i64 Y.y.b)).setCell (p := ⟨G3, 4, none⟩) hg3 (.int .i64 Y.z.a)).setCell (p := ⟨G3, 5, none⟩) hg3 (.int .i64 Y.z.b))
              refine hK _ _ hbs ?_
              clear hK K
              refine wpTree_done ?_
              simp only [List.drop_succ_cons, List.drop_zero]
              have FIN := Lib.hid (And.intro hbs hr)
              clear hbs hr m0 m1 m2 m3 m4 m5 ff ra3 hb
              go_wp2_with fail
              go_meet
              exact ⟨rfl, G3, rfl, FIN.out.1, FIN.out.2⟩
          case rest =>
            obtain ⟨rfl, G3, rfl, hb9, r3⟩ := hcut
            obtain ⟨x0, x1, x2, x3, x4, x5⟩ := st6 r3
            go_upto_region 32 with (go_at_call 39; (with_reducible refine (RDk.out _).mono ?_); rintro e w31 ⟨rfl, hbn⟩; replace hb9 := hb9.trans (hbn.mono hb9.size); clear hbn)
            have r4 := Row.new w31 79 [.int .i64 wk.p, .int .i64 wk.q, .int .i64 wk.r]
            replace hb9 := hb9.alloc hb9.size (.cells #[.int .i64 wk.p, .int .i64 wk.q, .int .i64 wk.r] 79)
            clear x0 x1 x2 x3 x4 x5 r3
            obtain ⟨Wy, hV⟩ : ∃ V, w31.alloc (.cells #[.int .i64 wk.p, .int .i64 wk.q, .int .i64 wk.r] 79) = V := ⟨_, rfl⟩
            replace r4 : Row Wy w31.heap.size 79 [.int .i64 wk.p, .int .i64 wk.q, .int .i64 wk.r] := hV ▸ r4
            rw [hV] at hb9 ⊢
            clear hV
            generalize w31.heap.size = G4 at r4 ⊢
            have rW2 := rW.below hb9 rW.lt
            have x0 : Wy.cell? ⟨gW, 0, none⟩ = some _ := rW2.cell 0
            have x1 : Wy.cell? ⟨gW, 1, none⟩ = some _ := rW2.cell 1
            have x2 : Wy.cell? ⟨gW, 2, none⟩ = some _ := rW2.cell 2
            have y0 : Wy.cell? ⟨G4, 0, none⟩ = some _ := r4.cell 0
            have y1 : Wy.cell? ⟨G4, 1, none⟩ = some _ := r4.cell 1
            have y2 : Wy.cell? ⟨G4, 2, none⟩ = some _ := r4.cell 2
            have hBy := hBc.trans (hb9.mono hBc.size)
            clear rW2 r4
            go_wp2_with fail
            go_roundg (gk - 1)
            case measure => omega
            case rel => exact ⟨k + 1, by first | rfl | go_num, by omega, by first | exact hBy | exact hBy.trans (below_drewN _ _ _)⟩
        · go_wp2_with fail
          go_ret
          exact ⟨rfl, hb25.trans (hBr.mono hb25.size)⟩
end Go.Proofs.YthboebhghaabnaaDoor
