import Derived.Test.YtaheibbbdglcmaaDoorRd3
import Derived.Test.YtaheibbbdglcmaaDoorRd4
import Derived.Test.YtaheibbbdglcmaaDoorOrd
namespace Go.Proofs.YtaheibbbdglcmaaDoor
set_option linter.unusedSimpArgs false
open Go.RowKit Fk Sha
/-! The reference's hash of bytes. -/
/-- the reference's own blocks: the result, the state -/
structure Sr (w W : World) (s : St) : Prop where
  below : Below w.heap.size w W
  size : w.heap.size + 2 ≤ W.heap.size
  d : Row W w.heap.size 30 (List.replicate 32 (.int .u8 0))
  s : Row W (w.heap.size + 1) 94 (s.list.map u)
theorem state_at {W : World} {g : Nat} {t : TypeId} {s : St} (h : Row W g t (s.list.map u)) {q : Nat} (hq : q < 8) : W.cell? ⟨g, q, none⟩ = some (u (s.list.getD q 0)) := by
  rw [Row.cell h, List.getElem?_map, List.getD_eq_getElem?_getD, List.getElem?_eq_getElem (by simpa [St.list] using hq)]; rfl
theorem out_at (s : St) {q r : Nat} (hq : q < 8) (hr : r < 4) : (out s)[4 * q + r]? = some (BitVec.ofNat 8 ((s.list.getD q 0).toNat / 2 ^ (8 * (3 - r)))) := by
  have key : ∀ (t : List W) (q : Nat), q < t.length → (t.flatMap fun x => be 4 x.toNat)[4 * q + r]? = some (BitVec.ofNat 8 ((t.getD q 0).toNat / 2 ^ (8 * (3 - r)))) := by
    intro t
    induction t with
    | nil => intro q h; simp at h
    | cons x t ih =>
      intro q h
      rw [List.flatMap_cons]
      cases q with
      | zero =>
        rw [List.getElem?_append_left (by rw [be_length]; omega), Nat.mul_zero, Nat.zero_add, be_getD hr]
        rfl
      | succ q =>
        rw [List.getElem?_append_right (by rw [be_length]; omega), be_length, show 4 * (q + 1) + r - 4 = 4 * q + r by omega, ih q (by simpa using h)]
        rfl
  exact key s.list q (by simpa [St.list] using hq)
theorem out_byte (s : St) {q r : Nat} (hq : q < 8) (hr : r < 4) (D : Int) (hD : D = ((2 ^ (8 * (3 - r)) : Nat) : Int)) : bv ((out s).getD (4 * q + r) 0) = .int .u8 (un (s.list.getD q 0) / D % 256) := by
  rw [List.getD_eq_getElem?_getD, out_at s hq hr, hD]
  unfold bv bn un
  simp only [Option.getD_some]
  rw [BitVec.toNat_ofNat, Int.natCast_emod, Int.natCast_ediv]
  rfl
/-- the first i bytes of the result are laid -/
def outI (s : St) (i : Nat) : List Value := ((out s).take i).map bv ++ List.replicate (32 - i) (.int .u8 0)
theorem outI_length (s : St) {i : Nat} (h : i ≤ 32) : (outI s i).length = 32 := by
  unfold outI; rw [List.length_append, List.length_map, List.length_take, out_length, List.length_replicate]; omega
theorem outI_set (s : St) {i : Nat} (h : i < 32) : (outI s i).set i (bv ((out s).getD i 0)) = outI s (i + 1) := by
  unfold outI
  have hl : (out s).length = 32 := out_length s
  have e1 : (out s).take (i + 1) = (out s).take i ++ [(out s).getD i 0] := by
    rw [List.take_succ_eq_append_getElem (by omega), List.getD_eq_getElem?_getD, List.getElem?_eq_getElem (by omega)]; rfl
  obtain ⟨n, hn⟩ : ∃ n, 32 - i = n + 1 := ⟨31 - i, by omega⟩
  have hk : (((out s).take i).map bv).length = i := by rw [List.length_map, List.length_take]; omega
  rw [List.set_append_right _ _ (by omega), hk, Nat.sub_self, hn, List.replicate_succ, List.set_cons_zero, e1, List.map_append, show 32 - (i + 1) = n by omega, List.append_assoc]
  rfl
set_option maxRecDepth 100000 in
set_option maxHeartbeats 4000000 in
theorem refsum_any (l : List B) (v : Value) (w : World) (h : SlB w w.heap.size v l) (hc : capB v) (hl : l.length ≤ 1099511627776) :
    Calls Tryd.prog 67 #[v] w fun e w' => e = .returned (.agg ((sum l).map bv).toArray) ∧ Below w.heap.size w w' := by
  have HS := Lib.hid h
  have HC := Lib.hid hc
  clear h hc
  go_enter Tryd.func67, Tryd.ntmps67
  go_upto_region 2 with (fail)
  obtain ⟨W0, hW0⟩ : ∃ W0 : World, (w.alloc (.cells (List.replicate 32 (Value.int IntKind.u8 0)).toArray 30)).alloc (.cells (startS.list.map u).toArray 94) = W0 := ⟨_, rfl⟩
  have hSm : Sr w W0 startS := by
    rw [← hW0]
    exact ⟨((Below.refl _ w).alloc (Nat.le_refl _) _).alloc (by simp) _, by simp, Row.alloc (Row.new w _ _) _, row_at' (by simp) _ _⟩
  refine (show _ = W0 from hW0) ▸ ?_
  clear hW0
  have hp := padded_any l v W0 ((HS.out.below hSm.below).mono (by have := hSm.size; omega)) HC.out hl
  have HP := Lib.hid hp
  have HSm := Lib.hid hSm
  clear hp hSm
  go_upto_region 3 with (go_at_call 82; (with_reducible refine HP.out.mono ?_); rintro e W1 ⟨v', rfl, hv', hcv', hblkv, hb1⟩)
  obtain ⟨_, N, C, rfl, hNC, hC, _⟩ := hcv'
  have hN : N = (padL l).length := by obtain ⟨_, _, _, hv, _⟩ := hv'; injection hv
  have hpos : 0 < (padL l).length := by rw [padL_length]; omega
  obtain ⟨_, A2, c2, hv, hE⟩ := hv'
  obtain ⟨pb, po, rfl, hpb, hE⟩ := hE hpos
  cases hv
  have hpne0 : w.heap.size + 2 ≤ pb := by have := hblkv _ _ _ rfl; have h3 := HSm.out.size; simp only [] at this; omega
  clear hblkv
  have hcell : ∀ i, i < (padL l).length → W1.cell? ⟨pb, po + i, none⟩ = some (bv ((padL l).getD i default)) := fun i hi => CellsG.byte hE hi
  have hblk := padL_blocks l
  have hlen := padL_length l
  have hzl := zeros_le l.length
  have hS1 : Sr w W1 startS := ⟨HSm.out.below.trans (hb1.mono (by have := HSm.out.size; omega)), Nat.le_trans HSm.out.size hb1.size, Row.keep HSm.out.d (hb1.block _ (by have := HSm.out.size; omega)), Row.keep HSm.out.s (hb1.block _ (by have := HSm.out.size; omega))⟩
  have HCELL := Lib.hid hcell
  have hN64 : (padL l).length = 64 * ((padL l).length / 64) := hblk.1
  have hbig : (padL l).length ≤ 1099511627849 := by omega
  have hsum : sum l = out (run startS (padL l) ((padL l).length / 64)) := rfl
  have HSUM := Lib.hid hsum
  clear hsum hblk hlen hzl hE hcell hb1 HSm HP HS HC
  generalize padL l = P at *
  have HN64 := Lib.hid hN64
  clear hN64
  go_wp2_with fail
  go_loopg [5] (P.length / 64) (fun gk i wr => ∃ k : Nat, i = .int .i64 ((64 * k : Nat) : Int) ∧ k + gk = P.length / 64 ∧ Sr w wr (run startS P k) ∧ (∀ i, i < P.length → wr.cell? ⟨pb, po + i, none⟩ = some (bv (P.getD i default))) ∧ pb < wr.heap.size)
  case atStart => exact ⟨0, rfl, by omega, hS1, HCELL.out, hpb⟩
  case round =>
    clear hS1 hpb HCELL
    obtain ⟨k, rfl, hk, hSr, hcell, hpb⟩ := hrel
    obtain ⟨n, hn⟩ : ∃ n, 64 * k = n := ⟨_, rfl⟩
    by_cases hlt : n < P.length
    · have hn64 : n + 64 ≤ P.length := by have := HN64.out; omega
      have hz := hSr.size
      have hbl := fun (V : World) (hV : ∀ b, b < wr.heap.size → V.heap[b]? = wr.heap[b]?) (hs : wr.heap.size ≤ V.heap.size) => block_any (run startS P k) ((P.drop n).take 64) pb (po + n) (C - n) V (by simp; omega) (by omega) (by omega) (fun i hi => by
        rw [World.cell?_of_block (w := wr) (a := ⟨pb, po + n + i, none⟩) (hV _ hpb), Nat.add_assoc, hcell _ (by omega), List.getD_eq_getElem?_getD, List.getD_eq_getElem?_getD, List.getElem?_take_of_lt hi, List.getElem?_drop]) (by omega)
      have hnx : run startS P (k + 1) = absorb (run startS P k) ((P.drop n).take 64) := by rw [← hn, run]
      have e64 : 64 * (k + 1) = n + 64 := by omega
      rw [hn]
      have HNX := Lib.hid hnx
      have HBL := Lib.hid hbl
      have HSR := Lib.hid hSr
      have HCL := Lib.hid hcell
      have HK := Lib.hid hk
      have HE64 := Lib.hid e64
      generalize absorb (run startS P k) ((P.drop n).take 64) = σ at *
      generalize run startS P k = τ at *
      clear hbl hnx hSr hcell hn e64
      go_upto_region 6 with (fail)
      have s1 : IntKind.i64.wrap ((n : Int) + 64) = (n : Int) + 64 := IntWalk.i64_in _ (by omega)
      have s2 : (0 : Int) ≤ n := by omega
      have s3 : ((n : Int) + 64).toNat = n + 64 := by omega
      have s4 : (0 : Int) ≤ (n : Int) + 64 := by omega
      have s5 : n + 64 ≤ C := by omega
      have s6 : (n : Int) + 64 ≤ C := by omega
      have s7 : C ≠ n := by omega
      obtain ⟨wo, rfl⟩ : ∃ wo : World, wo = wr := ⟨_, rfl⟩
      refine wp_region_ord 7 [(1, 0), (1, 1), (1, 2), (1, 3), (1, 4), (1, 5), (2, 6)] (fun w' => Sr w w' τ) (by kernel_rfl) (by kernel_rfl) (fun _ _ d _ _ h => by cases d <;> exact h) ⟨HSR.out.below.drew, HSR.out.size, HSR.out.d, HSR.out.s⟩ ?_
      iterate 6
        refine wpOrd_take (v := ?_) rfl (by rfl) (fun w hSw => ?_) ?_
        rotate_left 1
        · obtain ⟨c0, c1, c2, c3, c4, c5, c6, c7⟩ := st8 hSw.s
          go_simp
          with_reducible rfl
        simp only [Act.put, List.setIfInBounds_toArray, List.set_cons_zero, List.set_cons_succ]
      refine wpOrd_step rfl (fun K hK => ⟨by rfl, ?_⟩)
      go_simp
      go_at_call 83
      refine (HBL.out wo.drew (fun _ _ => rfl) (Nat.le_refl _)).mono ?_
      rintro e w2 ⟨rfl, hb2⟩
      have hb2' : ∀ b, b < wo.heap.size → w2.heap[b]? = wo.heap[b]? := hb2.block
      have hsz2 : wo.heap.size ≤ w2.heap.size := hb2.size
      have hBe2 : Below w.heap.size w w2 := HSR.out.below.trans ⟨hb2.os, hb2.tape, hb2.output, hb2.size, fun b hb => hb2.block b (by have : wo.drew.heap.size = wo.heap.size := rfl; omega)⟩
      have hD2 : Row w2 w.heap.size 30 (List.replicate 32 (.int .u8 0)) := Row.keep HSR.out.d (hb2' _ (by omega))
      have hS2 : Row w2 (w.heap.size + 1) 94 (τ.list.map u) := Row.keep HSR.out.s (hb2' _ (by omega))
      refine hK _ _ ⟨hBe2, by omega, hD2, hS2⟩ ?_
      clear hK K
      refine wpOrd_nil ?_
      simp only [List.drop_succ_cons, List.drop_zero]
      have hinf : (Tryd.prog.info? 94).map (·.size) = some 8 := by kernel_rfl
      refine wpList_store_row rfl 94 (.tmp 3) (.tmp 23) rfl (w.heap.size + 1) (σ.list.map u).toArray rfl rfl 94 (τ.list.map u).toArray hS2 (by rw [hinf]; simp [St.list]) (by simp [St.list]) (by simp [St.list, Value.oneCell', u]) ?_
      have hSrN : Sr w (w2.setRow (w.heap.size + 1) (σ.list.map u).toArray) σ := ⟨below_setRow hBe2 (by omega) _, by simp; omega, Row.keep hD2 (setRow_other _ _ _ _ (by omega)), setRow_heap w2 _ _ _ _ _ hS2⟩
      have hclN : ∀ i, i < P.length → (w2.setRow (w.heap.size + 1) (σ.list.map u).toArray).cell? ⟨pb, po + i, none⟩ = some (bv (P.getD i default)) := fun i hi => by
        rw [cell_setRow_other _ _ _ _ (by simp only []; omega), World.cell?_of_block (w := wo) (a := ⟨pb, po + i, none⟩) (hb2' _ hpb)]
        exact HCL.out i hi
      have hpbN : pb < (w2.setRow (w.heap.size + 1) (σ.list.map u).toArray).heap.size := by simp; omega
      have H1 := Lib.hid hSrN
      have H2 := Lib.hid hclN
      have H3 := Lib.hid hpbN
      clear hSrN hclN hpbN hb2 hb2' hsz2 hBe2 hD2 hS2 hinf s1 s2 s3 s4 s6 s7
      generalize w2.setRow (w.heap.size + 1) (σ.list.map u).toArray = W9 at *
      generalize Value.agg (σ.list.map u).toArray = v23 at *
      go_wp2_with fail
      go_roundg (gk - 1)
      case measure => have := HK.out; have := HE64.out; omega
      case rel => exact ⟨k + 1, by rw [HE64.out]; go_num, by have := HK.out; have := HE64.out; omega, by rw [HNX.out]; exact H1.out, H2.out, H3.out⟩
    · have hkf : k = P.length / 64 := by have := HN64.out; omega
      have hσ : out (run startS P k) = sum l := by rw [hkf]; exact HSUM.out.symm
      rw [hn]
      generalize run startS P k = σ at *
      have Hσ := Lib.hid hσ
      have HSR := Lib.hid hSr
      clear hσ hSr hcell hn hkf hpb hk HN64 HSUM
      go_upto_region 7 with (fail)
      have hE0 : outI σ 0 = List.replicate 32 (.int .u8 0) := rfl
      have hRd : Row (wr.alloc (.cells (List.replicate 32 (Value.int .u8 0)).toArray 30)) wr.heap.size 30 (outI σ 0) := by rw [hE0]; exact Row.new wr _ _
      have hRs : Row (wr.alloc (.cells (List.replicate 32 (Value.int .u8 0)).toArray 30)) (w.heap.size + 1) 94 (σ.list.map u) := Row.alloc HSR.out.s _
      have hR0 : Row (wr.alloc (.cells (List.replicate 32 (Value.int .u8 0)).toArray 30)) w.heap.size 30 (List.replicate 32 (.int .u8 0)) := Row.alloc HSR.out.d _
      have hBd : Below w.heap.size w (wr.alloc (.cells (List.replicate 32 (Value.int .u8 0)).toArray 30)) := HSR.out.below.alloc HSR.out.below.size _
      have hzb : w.heap.size + 2 ≤ wr.heap.size := HSR.out.size
      refine wp_region_lit ?_
      refine Great.wpList_runTo rfl (some 24) rfl (.agg (List.replicate 32 (Value.int .u8 0)).toArray) wr (by kernel_rfl) ?_
      refine Great.wpList_runTo rfl (some 6) rfl (.pointer (some ⟨wr.heap.size, 0, none⟩)) (wr.alloc (.cells (List.replicate 32 (Value.int .u8 0)).toArray 30)) (by kernel_rfl) ?_
      refine wpList_store_row rfl 30 (.tmp 6) (.tmp 24) rfl wr.heap.size (List.replicate 32 (Value.int .u8 0)).toArray rfl rfl 30 (List.replicate 32 (Value.int .u8 0)).toArray (World.alloc_heap_new wr _) (by kernel_rfl) rfl (by kernel_rfl) ?_
      rw [setRow_new wr]
      generalize Value.agg (List.replicate 32 (Value.int .u8 0)).toArray = v24 at *
      generalize wr.alloc (.cells (List.replicate 32 (Value.int .u8 0)).toArray 30) = W1' at *
      generalize wr.heap.size = db at *
      have hix := fun (q : Nat) (hq : q < 8) (V : World) (hV : Row V (w.heap.size + 1) 94 (σ.list.map u)) => state_at hV hq
      have HIX := Lib.hid hix
      clear hix hE0 HSR hpne0 hpos hE hNC hbig
      go_wp2_with fail
      go_loopg [7] 32 (fun gk i wx => ∃ j : Nat, i = .int .i64 j ∧ j + gk = 32 ∧ Row wx db 30 (outI σ j) ∧ Row wx (w.heap.size + 1) 94 (σ.list.map u) ∧ Row wx w.heap.size 30 (List.replicate 32 (.int .u8 0)) ∧ Below w.heap.size w wx)
      case atStart => exact ⟨0, rfl, rfl, hRd, hRs, hR0, hBd⟩
      case round =>
        clear hRd hRs hR0 hBd
        obtain ⟨j, rfl, hj, hRd, hRs, hR0, hBd⟩ := hrel
        by_cases hlt : j < 32
        · obtain ⟨q, r, hqr, hq, hr⟩ : ∃ q r, j = 4 * q + r ∧ q < 8 ∧ r < 4 := ⟨j / 4, j % 4, by omega, by omega, by omega⟩
          have h1 : (j : Int) / 4 = q := by omega
          have h2 : (j : Int) % 4 = r := by omega
          have cq := HIX.out q hq wr hRs
          have fd := Row.frozen hRd j
          obtain ⟨v0, hv0⟩ : ∃ v, wr.cell? ⟨db, j, none⟩ = some v := ⟨_, (Row.cell hRd j).trans (List.getElem?_eq_getElem (by rw [outI_length _ (by omega)]; omega))⟩
          have hset := Row.store hRd j (bv ((out σ).getD j 0))
          rw [outI_set σ hlt] at hset
          have hset1 := Row.other hRs (p := ⟨db, j, none⟩) (by simp only []; omega) (bv ((out σ).getD j 0))
          have hset2 := Row.other hR0 (p := ⟨db, j, none⟩) (by simp only []; omega) (bv ((out σ).getD j 0))
          have hset3 := hBd.setCell (p := ⟨db, j, none⟩) (by simp only []; omega) (bv ((out σ).getD j 0))
          obtain ⟨b0, b1⟩ := un_bd (σ.list.getD q 0)
          rcases (show r = 0 ∨ r = 1 ∨ r = 2 ∨ r = 3 by omega) with rfl | rfl | rfl | rfl
          all_goals
            first
              | have hby := out_byte σ hq (r := 0) (by omega) 16777216 (by decide)
                rw [← hqr, Int.emod_eq_of_lt (by omega) (by omega)] at hby
              | have hby := out_byte σ hq (r := 1) (by omega) 65536 (by decide)
                rw [← hqr] at hby
              | have hby := out_byte σ hq (r := 2) (by omega) 256 (by decide)
                rw [← hqr] at hby
              | have hby := out_byte σ hq (r := 3) (by omega) 1 (by decide)
                rw [← hqr, Int.ediv_one] at hby
          all_goals
            rw [hby] at hset hset1 hset2 hset3
            unfold u at cq
            generalize un (σ.list.getD q 0) = X at *
            have HS1 := Lib.hid hset
            have HS2 := Lib.hid hset1
            have HS3 := Lib.hid hset2
            have HS4 := Lib.hid hset3
            have s9 : (0 : Int) ≤ q := by omega
            have s10 : (q : Int) < 8 := by omega
            clear hset hset1 hset2 hset3 hby hqr hRd hRs hR0 hBd
            go_wp2_with fail
            go_roundg (gk - 1)
            case measure => omega
            case rel => exact ⟨j + 1, by go_num, by omega, HS1.out, HS2.out, HS3.out, HS4.out⟩
        · obtain rfl : j = 32 := by omega
          have e32 : outI σ 32 = (out σ).map bv := by
            have hl : (out σ).length = 32 := out_length σ
            unfold outI; rw [List.take_of_length_le (by omega)]; simp
          rw [e32] at hRd
          clear hRs
          go_upto_region 12 with (fail)
          have hlen := out_length σ
          have hcs : ((out σ).map bv).toArray.size = 32 := by simp [hlen]
          have hinf : (Tryd.prog.info? 30).map (·.size) = some 32 := by kernel_rfl
          refine wp_region_lit ?_
          refine wpList_load_row rfl 30 (.tmp 6) rfl db rfl 30 ((out σ).map bv).toArray (0, 0) _ hRd Tryd.underlying30 rfl (by rw [hcs]; exact hinf) ?_
          refine wpList_store_row rfl 30 (.tmp 2) (.tmp 41) rfl w.heap.size ((out σ).map bv).toArray rfl rfl 30 (List.replicate 32 (Value.int .u8 0)).toArray hR0 (by rw [hcs]; exact hinf) (by rw [hcs]; rfl) (by simp [Value.oneCell', bv]) ?_
          have hRf := setRow_heap wr w.heap.size _ ((out σ).map bv).toArray _ _ hR0
          have hBf := below_setRow hBd (Nat.le_refl _) ((out σ).map bv).toArray
          generalize wr.setRow w.heap.size ((out σ).map bv).toArray = Wf at *
          go_wp2_with fail
          exact bodyPost_ret (v := .agg ((out σ).map bv).toArray) (results_cell_row (g := w.heap.size) (t := 30) (fr := (0, 0)) rfl _ Wf _ _ rfl hRf Tryd.underlying30 rfl (by rw [hcs]; exact hinf)) rfl ⟨by rw [Hσ.out], hBf⟩
end Go.Proofs.YtaheibbbdglcmaaDoor
