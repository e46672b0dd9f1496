import Derived.Test.YthboebhghaabnaaGreatDoorPzk
import Derived.IntWalk
import Derived.Deep.QuietTactic
import Derived.BigQuiet
import Derived.RegionTactic
import Derived.ChangeAlike
import Derived.BigRegion
namespace Go.Proofs.YthboebhghaabnaaGreatDoor
set_option linter.unusedSimpArgs false
open Go.RowKit Fk Sha
/-! The reference's hash of bytes. -/
/-- the reference's own blocks: the result, the state -/
structure Sr (w W : World) (s : St) : Prop where
  below : Below w.heap.size w W
  size : w.heap.size + 2 ≤ W.heap.size
  d : Row W w.heap.size 58 (List.replicate 32 (.int .u8 0))
  s : Row W (w.heap.size + 1) 144 (s.list.map u)
theorem state_at {W : World} {g : Nat} {t : TypeId} {s : St} (h : Row W g t (s.list.map u)) {q : Nat} (hq : q < 8) : W.cell? ⟨g, q, none⟩ = some (u (s.list.getD q 0)) := by
  rw [Row.cell h, List.getElem?_map, List.getD_eq_getElem?_getD, List.getElem?_eq_getElem (by simpa [St.list] using hq)]; rfl
theorem out_at (s : St) {q r : Nat} (hq : q < 8) (hr : r < 4) : (out s)[4 * q + r]? = some (BitVec.ofNat 8 ((s.list.getD q 0).toNat / 2 ^ (8 * (3 - r)))) := by
  have key : ∀ (t : List W) (q : Nat), q < t.length → (t.flatMap fun x => be 4 x.toNat)[4 * q + r]? = some (BitVec.ofNat 8 ((t.getD q 0).toNat / 2 ^ (8 * (3 - r)))) := by
    intro t
    induction t with
    | nil => intro q h; simp at h
    | cons x t ih =>
      intro q h
      rw [List.flatMap_cons]
      cases q with
      | zero =>
        rw [List.getElem?_append_left (by rw [be_length]; omega), Nat.mul_zero, Nat.zero_add, be_getD hr]
        rfl
      | succ q =>
        rw [List.getElem?_append_right (by rw [be_length]; omega), be_length, show 4 * (q + 1) + r - 4 = 4 * q + r by omega, ih q (by simpa using h)]
        rfl
  exact key s.list q (by simpa [St.list] using hq)
theorem out_byte (s : St) {q r : Nat} (hq : q < 8) (hr : r < 4) (D : Int) (hD : D = ((2 ^ (8 * (3 - r)) : Nat) : Int)) : bv ((out s).getD (4 * q + r) 0) = .int .u8 (un (s.list.getD q 0) / D % 256) := by
  rw [List.getD_eq_getElem?_getD, out_at s hq hr, hD]
  unfold bv bn un
  simp only [Option.getD_some]
  rw [BitVec.toNat_ofNat, Int.natCast_emod, Int.natCast_ediv]
  rfl
/-- the first i bytes of the result are laid -/
def outI (s : St) (i : Nat) : List Value := ((out s).take i).map bv ++ List.replicate (32 - i) (.int .u8 0)
theorem outI_length (s : St) {i : Nat} (h : i ≤ 32) : (outI s i).length = 32 := by
  unfold outI; rw [List.length_append, List.length_map, List.length_take, out_length, List.length_replicate]; omega
theorem outI_set (s : St) {i : Nat} (h : i < 32) : (outI s i).set i (bv ((out s).getD i 0)) = outI s (i + 1) := by
  unfold outI
  have hl : (out s).length = 32 := out_length s
  have e1 : (out s).take (i + 1) = (out s).take i ++ [(out s).getD i 0] := by
    rw [List.take_succ_eq_append_getElem (by omega), List.getD_eq_getElem?_getD, List.getElem?_eq_getElem (by omega)]; rfl
  obtain ⟨n, hn⟩ : ∃ n, 32 - i = n + 1 := ⟨31 - i, by omega⟩
  have hk : (((out s).take i).map bv).length = i := by rw [List.length_map, List.length_take]; omega
  rw [List.set_append_right _ _ (by omega), hk, Nat.sub_self, hn, List.replicate_succ, List.set_cons_zero, e1, List.map_append, show 32 - (i + 1) = n by omega, List.append_assoc]
  rfl
set_option maxRecDepth 100000 in
set_option maxHeartbeats 4000000 in
theorem refsum_any (l : List B) (v : Value) (w : World) (h : SlB w w.heap.size v l) (hc : capB v) (hl : l.length ≤ 1099511627776) :
    Calls Tryz.prog 99 #[v] w fun e w' => e = .returned (.agg ((sum l).map bv).toArray) ∧ Below w.heap.size w w' := by
  have HS := Lib.hid h
  have HC := Lib.hid hc
  clear h hc
  go_enter Tryz.func99, Tryz.ntmps99
  go_upto_region 2 with (fail)
  obtain ⟨W0, hW0⟩ : ∃ W0 : World, (w.alloc (.cells (List.replicate 32 (Value.int IntKind.u8 0)).toArray 58)).alloc (.cells (startS.list.map u).toArray 144) = W0 := ⟨_, rfl⟩
  have hSm : Sr w W0 startS := by
    rw [← hW0]
    exact ⟨((Below.refl _ w).alloc (Nat.le_refl _) _).alloc (by simp) _, by simp, Row.alloc (Row.new w _ _) _, row_at' (by simp) _ _⟩
  refine (show _ = W0 from hW0) ▸ ?_
  clear hW0
  have hp := padded_any l v W0 ((HS.out.below hSm.below).mono (by have := hSm.size; omega)) HC.out hl
  have HP := Lib.hid hp
  have HSm := Lib.hid hSm
  clear hp hSm
  go_upto_region 3 with (go_at_call 109; (with_reducible refine HP.out.mono ?_); rintro e W1 ⟨v', rfl, hv', hcv', hblkv, hb1⟩)
  obtain ⟨_, N, C, rfl, hNC, hC, _⟩ := hcv'
  have hN : N = (padL l).length := by obtain ⟨_, _, _, hv, _⟩ := hv'; injection hv
  have hpos : 0 < (padL l).length := by rw [padL_length]; omega
  obtain ⟨_, A2, c2, hv, hE⟩ := hv'
  obtain ⟨pb, po, rfl, hpb, hE⟩ := hE hpos
  cases hv
  have hpne0 : w.heap.size + 2 ≤ pb := by have := hblkv _ _ _ rfl; have h3 := HSm.out.size; simp only [] at this; omega
  clear hblkv
  have hcell : ∀ i, i < (padL l).length → W1.cell? ⟨pb, po + i, none⟩ = some (bv ((padL l).getD i default)) := fun i hi => CellsG.byte hE hi
  have hblk := padL_blocks l
  have hlen := padL_length l
  have hzl := zeros_le l.length
  have hS1 : Sr w W1 startS := ⟨HSm.out.below.trans (hb1.mono (by have := HSm.out.size; omega)), Nat.le_trans HSm.out.size hb1.size, Row.keep HSm.out.d (hb1.block _ (by have := HSm.out.size; omega)), Row.keep HSm.out.s (hb1.block _ (by have := HSm.out.size; omega))⟩
  have HCELL := Lib.hid hcell
  have hN64 : (padL l).length = 64 * ((padL l).length / 64) := hblk.1
  have hbig : (padL l).length ≤ 1099511627849 := by omega
  have hsum : sum l = out (run startS (padL l) ((padL l).length / 64)) := rfl
  have HSUM := Lib.hid hsum
  clear hsum hblk hlen hzl hE hcell hb1 HSm HP HS HC
  generalize padL l = P at *
  have HN64 := Lib.hid hN64
  clear hN64
  go_wp2_with fail
  go_loopg [5] (P.length / 64) (fun gk i wr => ∃ k : Nat, i = .int .i64 ((64 * k : Nat) : Int) ∧ k + gk = P.length / 64 ∧ Sr w wr (run startS P k) ∧ (∀ i, i < P.length → wr.cell? ⟨pb, po + i, none⟩ = some (bv (P.getD i default))) ∧ pb < wr.heap.size)
  case atStart => exact ⟨0, rfl, by omega, hS1, HCELL.out, hpb⟩
  case round =>
    clear hS1 hpb HCELL
    obtain ⟨k, rfl, hk, hSr, hcell, hpb⟩ := hrel
    obtain ⟨n, hn⟩ : ∃ n, 64 * k = n := ⟨_, rfl⟩
    by_cases hlt : n < P.length
    · have hn64 : n + 64 ≤ P.length := by have := HN64.out; omega
      have hz := hSr.size
      have hbl := fun (V : World) (hV : ∀ b, b < wr.heap.size → V.heap[b]? = wr.heap[b]?) (hs : wr.heap.size ≤ V.heap.size) => block_any (run startS P k) ((P.drop n).take 64) pb (po + n) (C - n) V (by simp; omega) (by omega) (by omega) (fun i hi => by
        rw [World.cell?_of_block (w := wr) (a := ⟨pb, po + n + i, none⟩) (hV _ hpb), Nat.add_assoc, hcell _ (by omega), List.getD_eq_getElem?_getD, List.getD_eq_getElem?_getD, List.getElem?_take_of_lt hi, List.getElem?_drop]) (by omega)
      have hnx : run startS P (k + 1) = absorb (run startS P k) ((P.drop n).take 64) := by rw [← hn, run]
      have e64 : 64 * (k + 1) = n + 64 := by omega
      rw [hn]
      have HNX := Lib.hid hnx
      have HBL := Lib.hid hbl
      have HSR := Lib.hid hSr
      have HCL := Lib.hid hcell
      have HK := Lib.hid hk
      have HE64 := Lib.hid e64
      generalize absorb (run startS P k) ((P.drop n).take 64) = σ at *
      generalize run startS P k = τ at *
      clear hbl hnx hSr hcell hn e64
      go_upto_region 6 with (fail)
      have s1 : IntKind.i64.wrap ((n : Int) + 64) = (n : Int) + 64 := IntWalk.i64_in _ (by omega)
      have s2 : (0 : Int) ≤ n := by omega
      have s3 : ((n : Int) + 64).toNat = n + 64 := by omega
      have s4 : (0 : Int) ≤ (n : Int) + 64 := by omega
      have s5 : n + 64 ≤ C := by omega
      have s6 : (n : Int) + 64 ≤ C := by omega
      have s7 : C ≠ n := by omega
      obtain ⟨wo, rfl⟩ : ∃ wo : World, wo = wr := ⟨_, rfl⟩
      refine wp_region_ord 7 [(1, 0), (1, 1), (1, 2), (1, 3), (1, 4), (1, 5), (2, 6)] (fun w' => Sr w w' τ) (by kernel_rfl) (by kernel_rfl) (fun _ _ d _ _ h => by cases d <;> exact h) ⟨HSR.out.below.drew, HSR.out.size, HSR.out.d, HSR.out.s⟩ ?_
      iterate 6
        refine wpOrd_take (v := ?_) rfl (by rfl) (fun w hSw => ?_) ?_
        rotate_left 1
        · obtain ⟨c0, c1, c2, c3, c4, c5, c6, c7⟩ := st8 hSw.s
          go_simp
          with_reducible rfl
        simp only [Act.put, List.setIfInBounds_toArray, List.set_cons_zero, List.set_cons_succ]
      refine wpOrd_step rfl (fun K hK => ⟨by rfl, ?_⟩)
      go_simp
      go_at_call 110
      refine (HBL.out wo.drew (fun _ _ => rfl) (Nat.le_refl _)).mono ?_
      rintro e w2 ⟨rfl, hb2⟩
      have hb2' : ∀ b, b < wo.heap.size → w2.heap[b]? = wo.heap[b]? := hb2.block
      have hsz2 : wo.heap.size ≤ w2.heap.size := hb2.size
      have hBe2 : Below w.heap.size w w2 := HSR.out.below.trans ⟨hb2.os, hb2.tape, hb2.output, hb2.size, fun b hb => hb2.block b (by have : wo.drew.heap.size = wo.heap.size := rfl; omega)⟩
      have hD2 : Row w2 w.heap.size 58 (List.replicate 32 (.int .u8 0)) := Row.keep HSR.out.d (hb2' _ (by omega))
      have hS2 : Row w2 (w.heap.size + 1) 144 (τ.list.map u) := Row.keep HSR.out.s (hb2' _ (by omega))
      refine hK _ _ ⟨hBe2, by omega, hD2, hS2⟩ ?_
      clear hK K
      refine wpOrd_nil ?_
      simp only [List.drop_succ_cons, List.drop_zero]
      have hinf : (Tryz.prog.info? 144).map (·.size) = some 8 := by kernel_rfl
      refine wpList_store_row rfl 144 (.tmp 3) (.tmp 23) rfl (w.heap.size + 1) (σ.list.map u).toArray rfl rfl 144 (τ.list.map u).toArray hS2 (by rw [hinf]; simp [St.list]) (by simp [St.list]) (by simp [St.list, Value.oneCell', u]) ?_
      have hSrN : Sr w (w2.setRow (w.heap.size + 1) (σ.list.map u).toArray) σ := ⟨below_setRow hBe2 (by omega) _, by simp; omega, Row.keep hD2 (setRow_other _ _ _ _ (by omega)), setRow_heap w2 _ _ _ _ _ hS2⟩
      have hclN : ∀ i, i < P.length → (w2.setRow (w.heap.size + 1) (σ.list.map u).toArray).cell? ⟨pb, po + i, none⟩ = some (bv (P.getD i default)) := fun i hi => by
        rw [cell_setRow_other _ _ _ _ (by simp only []; omega), World.cell?_of_block (w := wo) (a := ⟨pb, po + i, none⟩) (hb2' _ hpb)]
        exact HCL.out i hi
      have hpbN : pb < (w2.setRow (w.heap.size + 1) (σ.list.map u).toArray).heap.size := by simp; omega
      have H1 := Lib.hid hSrN
      have H2 := Lib.hid hclN
      have H3 := Lib.hid hpbN
      clear hSrN hclN hpbN hb2 hb2' hsz2 hBe2 hD2 hS2 hinf s1 s2 s3 s4 s6 s7
      generalize w2.setRow (w.heap.size + 1) (σ.list.map u).toArray = W9 at *
      generalize Value.agg (σ.list.map u).toArray = v23 at *
      go_wp2_with fail
      go_roundg (gk - 1)
      case measure => have := HK.out; have := HE64.out; omega
      case rel => exact ⟨k + 1, by rw [HE64.out]; go_num, by have := HK.out; have := HE64.out; omega, by rw [HNX.out]; exact H1.out, H2.out, H3.out⟩
    · have hkf : k = P.length / 64 := by have := HN64.out; omega
      have hσ : out (run startS P k) = sum l := by rw [hkf]; exact HSUM.out.symm
      rw [hn]
      generalize run startS P k = σ at *
      have Hσ := Lib.hid hσ
      have HSR := Lib.hid hSr
      clear hσ hSr hcell hn hkf hpb hk HN64 HSUM
      go_upto_region 7 with (fail)
      have hE0 : outI σ 0 = List.replicate 32 (.int .u8 0) := rfl
      have hRd : Row (wr.alloc (.cells (List.replicate 32 (Value.int .u8 0)).toArray 58)) wr.heap.size 58 (outI σ 0) := by rw [hE0]; exact Row.new wr _ _
      have hRs : Row (wr.alloc (.cells (List.replicate 32 (Value.int .u8 0)).toArray 58)) (w.heap.size + 1) 144 (σ.list.map u) := Row.alloc HSR.out.s _
      have hR0 : Row (wr.alloc (.cells (List.replicate 32 (Value.int .u8 0)).toArray 58)) w.heap.size 58 (List.replicate 32 (.int .u8 0)) := Row.alloc HSR.out.d _
      have hBd : Below w.heap.size w (wr.alloc (.cells (List.replicate 32 (Value.int .u8 0)).toArray 58)) := HSR.out.below.alloc HSR.out.below.size _
      have hzb : w.heap.size + 2 ≤ wr.heap.size := HSR.out.size
      refine wp_region_lit ?_
      refine Great.wpList_runTo rfl (some 24) rfl (.agg (List.replicate 32 (Value.int .u8 0)).toArray) wr (by kernel_rfl) ?_
      refine Great.wpList_runTo rfl (some 6) rfl (.pointer (some ⟨wr.heap.size, 0, none⟩)) (wr.alloc (.cells (List.replicate 32 (Value.int .u8 0)).toArray 58)) (by kernel_rfl) ?_
      refine wpList_store_row rfl 58 (.tmp 6) (.tmp 24) rfl wr.heap.size (List.replicate 32 (Value.int .u8 0)).toArray rfl rfl 58 (List.replicate 32 (Value.int .u8 0)).toArray (World.alloc_heap_new wr _) (by kernel_rfl) rfl (by kernel_rfl) ?_
      rw [setRow_new wr]
      generalize Value.agg (List.replicate 32 (Value.int .u8 0)).toArray = v24 at *
      generalize wr.alloc (.cells (List.replicate 32 (Value.int .u8 0)).toArray 58) = W1' at *
      generalize wr.heap.size = db at *
      have hix := fun (q : Nat) (hq : q < 8) (V : World) (hV : Row V (w.heap.size + 1) 144 (σ.list.map u)) => state_at hV hq
      have HIX := Lib.hid hix
      clear hix hE0 HSR hpne0 hpos hE hNC hbig
      go_wp2_with fail
      go_loopg [7] 32 (fun gk i wx => ∃ j : Nat, i = .int .i64 j ∧ j + gk = 32 ∧ Row wx db 58 (outI σ j) ∧ Row wx (w.heap.size + 1) 144 (σ.list.map u) ∧ Row wx w.heap.size 58 (List.replicate 32 (.int .u8 0)) ∧ Below w.heap.size w wx)
      case atStart => exact ⟨0, rfl, rfl, hRd, hRs, hR0, hBd⟩
      case round =>
        clear hRd hRs hR0 hBd
        obtain ⟨j, rfl, hj, hRd, hRs, hR0, hBd⟩ := hrel
        by_cases hlt : j < 32
        · obtain ⟨q, r, hqr, hq, hr⟩ : ∃ q r, j = 4 * q + r ∧ q < 8 ∧ r < 4 := ⟨j / 4, j % 4, by omega, by omega, by omega⟩
          have h1 : (j : Int) / 4 = q := by omega
          have h2 : (j : Int) % 4 = r := by omega
          have cq := HIX.out q hq wr hRs
          have fd := Row.frozen hRd j
          obtain ⟨v0, hv0⟩ : ∃ v, wr.cell? ⟨db, j, none⟩ = some v := ⟨_, (Row.cell hRd j).trans (List.getElem?_eq_getElem (by rw [outI_length _ (by omega)]; omega))⟩
          have hset := Row.store hRd j (bv ((out σ).getD j 0))
          rw [outI_set σ hlt] at hset
          have hset1 := Row.other hRs (p := ⟨db, j, none⟩) (by simp only []; omega) (bv ((out σ).getD j 0))
          have hset2 := Row.other hR0 (p := ⟨db, j, none⟩) (by simp only []; omega) (bv ((out σ).getD j 0))
          have hset3 := hBd.setCell (p := ⟨db, j, none⟩) (by simp only []; omega) (bv ((out σ).getD j 0))
          obtain ⟨b0, b1⟩ := un_bd (σ.list.getD q 0)
          rcases (show r = 0 ∨ r = 1 ∨ r = 2 ∨ r = 3 by omega) with rfl | rfl | rfl | rfl
          all_goals
            first
              | have hby := out_byte σ hq (r := 0) (by omega) 16777216 (by decide)
                rw [← hqr, Int.emod_eq_of_lt (by omega) (by omega)] at hby
              | have hby := out_byte σ hq (r := 1) (by omega) 65536 (by decide)
                rw [← hqr] at hby
              | have hby := out_byte σ hq (r := 2) (by omega) 256 (by decide)
                rw [← hqr] at hby
              | have hby := out_byte σ hq (r := 3) (by omega) 1 (by decide)
                rw [← hqr, Int.ediv_one] at hby
          all_goals
            rw [hby] at hset hset1 hset2 hset3
            unfold u at cq
            generalize un (σ.list.getD q 0) = X at *
            have HS1 := Lib.hid hset
            have HS2 := Lib.hid hset1
            have HS3 := Lib.hid hset2
            have HS4 := Lib.hid hset3
            have s9 : (0 : Int) ≤ q := by omega
            have s10 : (q : Int) < 8 := by omega
            clear hset hset1 hset2 hset3 hby hqr hRd hRs hR0 hBd
            go_wp2_with fail
            go_roundg (gk - 1)
            case measure => omega
            case rel => exact ⟨j + 1, by go_num, by omega, HS1.out, HS2.out, HS3.out, HS4.out⟩
        · obtain rfl : j = 32 := by omega
          have e32 : outI σ 32 = (out σ).map bv := by
            have hl : (out σ).length = 32 := out_length σ
            unfold outI; rw [List.take_of_length_le (by omega)]; simp
          rw [e32] at hRd
          clear hRs
          go_upto_region 12 with (fail)
          have hlen := out_length σ
          have hcs : ((out σ).map bv).toArray.size = 32 := by simp [hlen]
          have hinf : (Tryz.prog.info? 58).map (·.size) = some 32 := by kernel_rfl
          refine wp_region_lit ?_
          refine Go.wpList_load_row rfl 58 (.tmp 6) rfl db rfl 58 ((out σ).map bv).toArray (0, 0) _ hRd Tryz.underlying58 rfl (by rw [hcs]; exact hinf) ?_
          refine wpList_store_row rfl 58 (.tmp 2) (.tmp 41) rfl w.heap.size ((out σ).map bv).toArray rfl rfl 58 (List.replicate 32 (Value.int .u8 0)).toArray hR0 (by rw [hcs]; exact hinf) (by rw [hcs]; rfl) (by simp [Value.oneCell', bv]) ?_
          have hRf := setRow_heap wr w.heap.size _ ((out σ).map bv).toArray _ _ hR0
          have hBf := below_setRow hBd (Nat.le_refl _) ((out σ).map bv).toArray
          generalize wr.setRow w.heap.size ((out σ).map bv).toArray = Wf at *
          go_wp2_with fail
          exact bodyPost_ret (v := .agg ((out σ).map bv).toArray) (results_cell_row (g := w.heap.size) (t := 58) (fr := (0, 0)) rfl _ Wf _ _ rfl hRf Tryz.underlying58 rfl (by rw [hcs]; exact hinf)) rfl ⟨by rw [Hσ.out], hBf⟩
end Go.Proofs.YthboebhghaabnaaGreatDoor

namespace Go.Proofs.YthboebhghaabnaaGreatDoor
open Go.RowKit Fk Sha
/-! A number from a hash. -/
/-- the k-th byte, the first one without its highest bit -/
def hb (d : List B) (k : Nat) : Nat := if k = 0 then (d.getD 0 0).toNat % 128 else (d.getD k 0).toNat
def hnum (d : List B) : Nat → Nat
  | 0 => 0
  | k + 1 => hnum d k * 256 + hb d k
def hashN (d : List B) : Int := ((hnum d 8 % 1073741789 : Nat) : Int)
theorem hb_lt (d : List B) (k : Nat) : hb d k < 256 := by
  unfold hb; split
  · omega
  · exact (d.getD k 0).isLt
theorem hnum_lt (d : List B) : ∀ k, hnum d (k + 1) < 128 * 256 ^ k
  | 0 => by simp [hnum, hb]; omega
  | k + 1 => by
    have := hnum_lt d k
    have h2 := hb_lt d (k + 1)
    show hnum d (k + 1) * 256 + hb d (k + 1) < _
    rw [Nat.pow_succ]
    omega
theorem hnum_bd (d : List B) {k : Nat} (h : k ≤ 8) : hnum d k < 9223372036854775808 ∧ (k < 8 → hnum d k < 36028797018963968) := by
  cases k with
  | zero => exact ⟨by simp [hnum], fun _ => by simp [hnum]⟩
  | succ k =>
    have h1 := hnum_lt d k
    rcases (show k = 0 ∨ k = 1 ∨ k = 2 ∨ k = 3 ∨ k = 4 ∨ k = 5 ∨ k = 6 ∨ k = 7 by omega) with rfl | rfl | rfl | rfl | rfl | rfl | rfl | rfl <;> (simp only [Nat.reducePow, Nat.reduceMul] at h1; exact ⟨by omega, fun _ => by omega⟩)
theorem wraps_i64 (n : Int) (h₀ : 0 ≤ n) (h₁ : n < 2 ^ 63) : IntKind.i64.wrap n = n := by
  rw [IntKind.wrap_i64]; have : (2 : Int) ^ 63 = 9223372036854775808 := by decide
  omega
theorem or_byte (n c : Int) (h0 : 0 ≤ n) (h1 : n < 36028797018963968) (h2 : 0 ≤ c) (h3 : c < 256) : bits .or .i64 (n * 256) c = n * 256 + c := by
  have e63 : (2 : Int) ^ 63 = 9223372036854775808 := by decide
  have e8 : (2 : Int) ^ 8 = 256 := by decide
  exact bits_join .i64 63 (by decide) wraps_i64 8 (n * 256) c (by omega) (by rw [e8]; omega) (by rw [e63]; omega) h2 (by rw [e8]; exact h3) (by rw [e63]; omega)
theorem and_127 (x : Int) (h0 : 0 ≤ x) (h1 : x < 256) : bits .and .u8 x 127 = x % 128 := bits_mask .u8 8 (by decide) wraps_u8 7 (by decide) x h0 h1
end Go.Proofs.YthboebhghaabnaaGreatDoor

namespace Go.Proofs.YthboebhghaabnaaGreatDoor
open Go.RowKit Fk Sha
/-! The reference's hashes under a tag, and numbers from hashes. -/
set_option maxRecDepth 100000 in
set_option maxHeartbeats 2000000 in
theorem reftagged_any (s : ByteArray) (l : List B) (v : Value) (w : World) (h : SlB w w.heap.size v l) (hc : capB v) (hl : l.length ≤ 1099511627000) (hs : s.size ≤ 1099511627000) :
    Calls Tryz.prog 80 #[.string s, v] w fun e w' => e = .returned (.agg ((tagged (sb s) l).map bv).toArray) ∧ Below w.heap.size w w' := by
  have HS := Lib.hid h
  have HC := Lib.hid hc
  obtain ⟨A, n, c, rfl, _⟩ := hc
  obtain rfl : n = l.length := by obtain ⟨_, _, _, hv, _⟩ := h; injection hv
  clear h
  go_enter Tryz.func80, Tryz.ntmps80
  go_upto_region 1 with (fail)
  obtain ⟨W0, hW0⟩ : ∃ W0 : World, w.alloc (.cells (List.replicate 32 (Value.int IntKind.u8 0)).toArray 58) = W0 := ⟨_, rfl⟩
  have hD0 : Row W0 w.heap.size 58 (List.replicate 32 (.int .u8 0)) := by rw [← hW0]; exact Row.new w _ _
  have hB0 : Below w.heap.size w W0 := by rw [← hW0]; exact (Below.refl _ w).alloc (Nat.le_refl _) _
  have hz0 : W0.heap.size = w.heap.size + 1 := by rw [← hW0]; simp
  refine (show _ = W0 from hW0) ▸ ?_
  clear hW0
  obtain ⟨V, W1, hrun, hV, hcV, hb1⟩ := str_conv s W0 hs
  have hD1 := Row.keep hD0 (hb1.block _ (by omega))
  have hB1 := hB0.trans (hb1.mono (by omega))
  have hs1 := refsum_any (sb s) V W1 hV hcV (by rw [sb_length]; omega)
  have hst := fun W => store32 (sum (sb s)) (sum_length _) W
  have HS1 := Lib.hid hs1
  clear hs1 hV hcV hD0 hB0
  go_upto_region 2 with (go_at_call 99; (with_reducible refine HS1.out.mono ?_); rintro e W2 ⟨rfl, hb2⟩)
  have hB2 := hB1.trans (hb2.mono hB1.size)
  have hD2 := Row.keep hD1 (hb2.block _ (Row.lt hD1))
  have hz2' := Row.lt hD2
  obtain ⟨W3, hW3⟩ : ∃ W3 : World, W2.alloc (.cells ((sum (sb s)).map bv).toArray 58) = W3 := ⟨_, rfl⟩
  have hB3 : Below w.heap.size w W3 := by rw [← hW3]; exact hB2.alloc hB2.size _
  have hD3 : Row W3 w.heap.size 58 (List.replicate 32 (.int .u8 0)) := by rw [← hW3]; exact Row.alloc hD2 _
  have hT3 : Row W3 W2.heap.size 58 ((sum (sb s)).map bv) := by rw [← hW3]; exact Row.new W2 _ _
  have hz3 : W3.heap.size = W2.heap.size + 1 := by rw [← hW3]; simp
  have hsl : SlB W3 W3.heap.size (.slice (some ⟨W2.heap.size, 0, none⟩) 32 32) (sum (sb s)) := by
    have := Row.sl (c := 32) (m := 1) (enc := encB) (l := sum (sb s)) (by rw [flat_b]; exact hT3) (fun _ => rfl) (by rw [sum_length]; omega) (show W2.heap.size < W3.heap.size by omega)
    rwa [sum_length] at this
  rw [hW3]
  have hsl1 := hsl.below ((Below.refl W3.heap.size W3).alloc (Nat.le_refl _) (.cells #[] 5))
  have hcap1 : capB (.slice (some ⟨W2.heap.size, 0, none⟩) 32 32) := ⟨_, _, _, rfl, Nat.le_refl _, by omega, fun h => by cases h⟩
  have HSL := Lib.hid hsl1
  have ho := own_emptyB W3
  rw [hz3] at ho
  have HO := Lib.hid ho
  have HB3 := Lib.hid hB3
  have HD3 := Lib.hid hD3
  have hlen32 := sum_length (sb s)
  have HLEN := Lib.hid hlen32
  clear hsl hsl1 hT3 hW3 hD1 hB1 hb1 hb2 hD2 hB2 hst HS1 hD3 hB3 hlen32
  clear ho
  go_wp2_with (first
    | (at_builtin; refine wpList_app rfl _ _ rfl (W2.heap.size + 1) _ 0 [] rfl HO.out _ rfl (sum (sb s)) _ HSL.out hcap1 (by rw [HLEN.out]; omega) (by simp; omega) ?_; intro v1 w4 hown4 hg4; have hB4 := (HB3.out.alloc HB3.out.size _).grown hg4 (by have := HB3.out.size; simp; omega) (fun r e => by have := (HO.out.lt r e).1; have := HB3.out.size; omega); have hsl2 := HS.out.below hB4; have HO4 := Lib.hid hown4; have HSL4 := Lib.hid hsl2; have HB4 := Lib.hid hB4; have hW4 : W2.heap.size + 1 ≤ w4.heap.size := (by have := hg4.size; simp at this; omega); have hD4 := Row.keep HD3.out (show w4.heap[w.heap.size]? = W3.heap[w.heap.size]? from (hg4.block _ (by simp; omega) (fun e => by have := (HO.out.lt _ e.symm).1; omega)).trans (Below.heap_alloc W3 _ _ (by omega))); have HD4 := Lib.hid hD4; clear hown4 hsl2 hB4 hg4 hD4)
    | (at_builtin; refine wpList_app rfl _ _ rfl (W2.heap.size + 1) v1 (0 + (sum (sb s)).length) ([] ++ sum (sb s)) rfl HO4.out _ rfl l _ HSL4.out HC.out (by rw [HLEN.out]; omega) hW4 ?_; intro v2 w5 hown5 hg5; have hB5 := HB4.out.grown hg5 HB4.out.size (fun r e => by have := (HO4.out.lt r e).1; omega); have hD5 := Row.keep HD4.out (hg5.block _ (Row.lt HD4.out) (fun e => by have := (HO4.out.lt _ e.symm).1; omega)); have hq := own_slB hown5 (by simp only [List.nil_append, List.length_append]; omega) (by simp only [List.nil_append, List.length_append]; rw [HLEN.out]; omega); have hs5 := refsum_any ([] ++ sum (sb s) ++ l) v2 w5 hq.1 hq.2 (by simp only [List.nil_append, List.length_append]; rw [HLEN.out]; omega); rw [List.nil_append] at hs5; have HS5 := Lib.hid hs5; have HB5 := Lib.hid hB5; have HD5 := Lib.hid hD5; clear hs5 hq hown5 hg5 hB5 hD5))
  refine HS5.out.mono ?_
  rintro e W6 ⟨rfl, hb6⟩
  have hB6 := HB5.out.trans (hb6.mono HB5.out.size)
  have hD6 := Row.keep HD5.out (hb6.block _ (Row.lt HD5.out))
  have hst6 := store_old (sum (sum (sb s) ++ l)) (sum_length _) hD6
  have hR6 : Row (W6.setRow w.heap.size ((sum (sum (sb s) ++ l)).map bv).toArray) w.heap.size 58 ((sum (sum (sb s) ++ l)).map bv) := setRow_heap W6 _ _ _ _ _ hD6
  have hB7 := below_setRow hB6 (Nat.le_refl _) ((sum (sum (sb s) ++ l)).map bv).toArray
  generalize W6.setRow w.heap.size ((sum (sum (sb s) ++ l)).map bv).toArray = W7 at *
  have HR6 := Lib.hid hR6
  have HB6 := Lib.hid hB7
  clear hb6 hB6 hD6 hR6 hB7 hrun hz0 hz3 HS5 HO HSL HB3 HD3 HLEN HO4 HSL4 HB4 hW4 HD4 HB5 HD5 hcap1
  have hdl : (sum (sum (sb s) ++ l)).length = 32 := sum_length _
  have hres : tagged (sb s) l = sum (sum (sb s) ++ l) := rfl
  generalize sum (sum (sb s) ++ l) = D at *
  generalize sum (sb s) = D2 at *
  have HRES := Lib.hid hres
  clear hres
  go_wp2_with fail
  have hinf : (Tryz.prog.info? 58).map (·.size) = some 32 := by kernel_rfl
  exact bodyPost_ret (v := .agg (D.map bv).toArray) (results_cell_row (g := w.heap.size) (t := 58) (fr := (0, 0)) rfl _ _ _ _ rfl HR6.out Tryz.underlying58 rfl (by rw [hinf]; simp [hdl])) rfl ⟨by rw [HRES.out], HB6.out⟩
end Go.Proofs.YthboebhghaabnaaGreatDoor

namespace Go.Proofs.YthboebhghaabnaaGreatDoor
open Go.RowKit Fk

end Go.Proofs.YthboebhghaabnaaGreatDoor

namespace Go.Proofs.YthboebhghaabnaaGreatDoor
open Go.RowKit Fk

set_option maxHeartbeats 400000 in
theorem refpower_nat (a n : Nat) (ha : a < 2147483579) (hn : n < 2147483579) (w : World) :
    Calls Tryz.prog 56 #[.int .i64 a, .int .i64 n] w fun e w' => e = .returned (.int .i64 ((a ^ n % 2147483579 : Nat) : Int)) ∧ w = w' := by
  go_enter Tryz.func56, Tryz.ntmps56
  go_wp2
  go_loopg [0, 1, 5] n (fun k x m c wr => w = wr ∧ ∃ (x' c' : Nat), x = .int .i64 x' ∧ m = .int .i64 k ∧ c = .int .i64 c' ∧ k < 2147483579 ∧ x' < 2147483579 ∧ c' < 2147483579 ∧ PInv a n c' x' k)
  case atStart => exact ⟨rfl, a, 1, rfl, rfl, rfl, hn, ha, by omega, PInv.start a n⟩
  case round =>
    obtain ⟨rfl, x', c', rfl, rfl, rfl, b1, b2, b3, hI⟩ := hrel
    have m1 : c' * x' ≤ 2147483579 * 2147483579 := Nat.mul_le_mul (by omega) (by omega)
    have m2 : x' * x' ≤ 2147483579 * 2147483579 := Nat.mul_le_mul (by omega) (by omega)
    have m3 : (c' : Int) * x' = ((c' * x' : Nat) : Int) := by simp
    have m4 : (x' : Int) * x' = ((x' * x' : Nat) : Int) := by simp
    have m5 : 0 ≤ (c' : Int) * x' := by omega
    have m6 : 0 ≤ (x' : Int) * x' := by omega
    have m7 : (c' : Int) * x' ≤ 2147483579 * 2147483579 := by omega
    have m8 : (x' : Int) * x' ≤ 2147483579 * 2147483579 := by omega
    by_cases hk : 0 < gk
    · by_cases ho : gk % 2 = 1
      · have hI2 := PInv.odd hI ho
        have t1 : ((gk : Int) % 2 == 1) = true := by simp; omega
        clear hI ho m3 m4
        go_wp2
        go_roundg (gk / 2)
        case measure => omega
        case rel => exact ⟨rfl, x' * x' % 2147483579, c' * x' % 2147483579, by go_num, by go_num, by go_num, by omega, Nat.mod_lt _ (by omega), Nat.mod_lt _ (by omega), hI2⟩
      · have hI2 := PInv.even hI ho
        have t1 : ((gk : Int) % 2 == 1) = false := by simp; omega
        clear hI ho m3 m4
        go_wp2
        go_roundg (gk / 2)
        case measure => omega
        case rel => exact ⟨rfl, x' * x' % 2147483579, c', by go_num, by go_num, rfl, by omega, Nat.mod_lt _ (by omega), by omega, hI2⟩
    · obtain rfl : gk = 0 := by omega
      have hI2 := PInv.done hI b3
      clear hI m3 m4
      go_wp2
      go_ret
      exact ⟨ret_int (by rw [hI2]), rfl⟩
theorem refpower_any (a n : Int) (h1 : 0 ≤ a) (h2 : a < 2147483579) (h3 : 0 ≤ n) (h4 : n < 2147483579) (w : World) :
    Calls Tryz.prog 56 #[.int .i64 a, .int .i64 n] w fun e w' => e = .returned (.int .i64 (pwr a n)) ∧ w = w' := by
  have := refpower_nat a.toNat n.toNat (by omega) (by omega) w
  rw [Int.toNat_of_nonneg h1, Int.toNat_of_nonneg h3] at this
  exact this

set_option maxHeartbeats 400000 in
theorem refvalid_any (x : Int) (w : World) :
    Calls Tryz.prog 28 #[.int .i64 x] w fun e w' => e = .returned (.bool (vld x)) ∧ w = w' := by
  by_cases h1 : 1 ≤ x
  · by_cases h2 : x < 2147483579
    · rw [vld_pow h1 h2]
      go_enter Tryz.func28, Tryz.ntmps28
      go_wp2_with (go_at_call 56; refine (refpower_any _ _ (by omega) (by omega) (by omega) (by omega) _).mono ?_; rintro e w' ⟨rfl, rfl⟩)
      go_ret
      exact ⟨rfl, rfl⟩
    · rw [vld_out (by omega)]
      go_enter Tryz.func28, Tryz.ntmps28
      go_wp2
      go_ret
      exact ⟨rfl, rfl⟩
  · rw [vld_out (by omega)]
    go_enter Tryz.func28, Tryz.ntmps28
    go_wp2
    go_ret
    exact ⟨rfl, rfl⟩

end Go.Proofs.YthboebhghaabnaaGreatDoor

namespace Go.Proofs.YthboebhghaabnaaGreatDoor
open Go.RowKit Fk

set_option maxHeartbeats 400000 in
theorem exponent_any (n : Int) (w : World) :
    Calls Tryz.prog 96 #[.int .i64 n] w fun e w' => e = .returned (.int .i64 (n % 1073741789)) ∧ w = w' := by
  have t1 := Int.tmod_lt_of_pos n (show (0 : Int) < 1073741789 by omega)
  by_cases h : n.tmod 1073741789 < 0
  · have e1 : n.tmod 1073741789 + 1073741789 = n % 1073741789 := tmod_neg (by omega) h
    have t2 : -1073741789 < n.tmod 1073741789 := Int.lt_tmod_of_pos n (by omega)
    have H := Lib.hid e1
    clear e1
    go_enter Tryz.func96, Tryz.ntmps96
    go_wp2
    go_ret
    exact ⟨ret_int H.out, rfl⟩
  · have e1 : n.tmod 1073741789 = n % 1073741789 := tmod_pos (by omega) (by omega)
    have H := Lib.hid e1
    clear e1
    go_enter Tryz.func96, Tryz.ntmps96
    go_wp2
    all_goals go_ret
    all_goals exact ⟨ret_int (by first | exact H.out | omega), rfl⟩

set_option maxHeartbeats 400000 in
theorem refpow_any (a n : Int) (w : World) :
    Calls Tryz.prog 78 #[.int .i64 a, .int .i64 n] w fun e w' => e = .returned (.tuple #[.int .i64 (powC a n), .int .i64 (powE a)]) ∧ w = w' := by
  by_cases ha : vld a = true
  · have l1 := vld_lo ha
    have l2 := vld_hi ha
    have e1 : powC a n = pwr a (n % 1073741789) := by simp [powC, ha]
    have e2 : powE a = 0 := by simp [powE, ha]
    rw [e1, e2]
    clear e1 e2
    have n1 : 0 ≤ n % 1073741789 := by omega
    have n2 : n % 1073741789 < 1073741789 := by omega
    go_enter Tryz.func78, Tryz.ntmps78
    go_wp2_with (first | (go_at_call 28; refine (refvalid_any _ _).mono ?_; rintro e w' ⟨rfl, rfl⟩) | (go_at_call 96; refine (exponent_any _ _).mono ?_; rintro e w' ⟨rfl, rfl⟩) | (go_at_call 56; refine (refpower_any _ _ (by omega) (by omega) (by omega) (by omega) _).mono ?_; rintro e w' ⟨rfl, rfl⟩))
    go_ret2
    exact ⟨rfl, rfl⟩
  · have ha' : vld a = false := by simpa using ha
    have e1 : powC a n = 0 := by simp [powC, ha']
    have e2 : powE a = 90 := by simp [powE, ha']
    rw [e1, e2]
    clear e1 e2 ha
    go_enter Tryz.func78, Tryz.ntmps78
    go_wp2_with (go_at_call 28; refine (refvalid_any _ _).mono ?_; rintro e w' ⟨rfl, rfl⟩)
    go_ret2
    exact ⟨rfl, rfl⟩
end Go.Proofs.YthboebhghaabnaaGreatDoor

set_option linter.unusedSimpArgs false
set_option linter.unusedVariables false
namespace Go.Proofs.YthboebhghaabnaaGreatDoor
open Go.RowKit Go.Shelf Fk

/-- the world's own blocks in Strip, while others come -/
structure Sp (w : World) (n : Int) (s : Se) (W : World) : Prop where
  n : Boxed W w.heap.size 3 (.int .i64 n)
  s : RowS W (w.heap.size + 1) s
  o : RowS W (w.heap.size + 1 + 1) default
  b : Below w.heap.size w W
theorem Sp.below {w W W' : World} {n : Int} {s : Se} (h : Sp w n s W) (hb : Below W.heap.size W W') : Sp w n s W' :=
  ⟨Row.keep (vs := [.int .i64 n]) h.n (hb.block _ (Boxed.lt h.n)), Row.keep h.s (hb.block _ (Row.lt h.s)), Row.keep h.o (hb.block _ (Row.lt h.o)), h.b.trans (hb.mono h.b.size)⟩
theorem Sp.start (n : Int) (s : Se) (w : World) : Sp w n s (((w.alloc (.cells #[.int .i64 n] 3)).alloc (.cells s.cells.toArray 45)).alloc (.cells (default : Se).cells.toArray 45)) :=
  ⟨((Boxed.new w _ _).alloc _).alloc _, (row_at (by simp) _ _).alloc _, row_at (by simp) _ _, (((Below.refl _ w).alloc (Nat.le_refl _) _).alloc (by simp) _).alloc (by simp; omega) _⟩

end Go.Proofs.YthboebhghaabnaaGreatDoor

set_option linter.unusedSimpArgs false
set_option linter.unusedVariables false
namespace Go.Proofs.YthboebhghaabnaaGreatDoor
open Go.RowKit Go.Shelf Fk

theorem elE_one {n : Int} (h : elE n ≠ 0) : elE n = 1 := by unfold elE at *; split at h <;> simp_all
/-- the world's own blocks in Seal, while others come -/
structure Sa (w : World) (r : Tr) (s : Se) (W : World) : Prop where
  r : Row W (w.heap.size + 1) 56 r.cells
  o : RowS W (w.heap.size + 1 + 1) s
  b : Below w.heap.size w W
theorem Sa.below {w W W' : World} {r : Tr} {s : Se} (h : Sa w r s W) (hb : Below W.heap.size W W') : Sa w r s W' :=
  ⟨Row.keep h.r (hb.block _ (Row.lt h.r)), Row.keep h.o (hb.block _ (Row.lt h.o)), h.b.trans (hb.mono h.b.size)⟩
theorem elC_bd {n : Int} (h : elE n = 0) : vld (elC n) = true := by
  have : 1 ≤ n ∧ n ≤ 1073741789 := elE_iff.1 (by rw [h]; rfl)
  exact vld_el this.1 this.2
theorem seal0_ok {t : Tr} (h : wOK t = true) : okS (seal0 t) = true := by
  simp only [wOK, Bool.and_eq_true, beq_iff_eq] at h
  obtain ⟨h1, h2, h3⟩ := h
  refine okS_iff.2 ⟨okC_iff.2 ⟨vld_1, elC_bd h1⟩, okC_iff.2 ⟨vld_1, elC_bd h2⟩, okC_iff.2 ⟨vld_1, elC_bd h3⟩⟩

end Go.Proofs.YthboebhghaabnaaGreatDoor

set_option linter.unusedSimpArgs false
set_option linter.unusedVariables false
namespace Go.Proofs.YthboebhghaabnaaGreatDoor
open Go.RowKit Go.Shelf Fk
attribute [local go_sem] Oper.semAt_some wide_fn'
def readTo (s : Se) (k : Nat) : Tr := ⟨if 0 < k then numC s.x.b else 0, if 1 < k then numC s.y.b else 0, if 2 < k then numC s.z.b else 0⟩
theorem readTo_set (s : Se) {k : Nat} (h : k < 3) : (readTo s k).cells.set k (.int .i64 (numC (s.get k).b)) = (readTo s (k + 1)).cells := by
  rcases (show k = 0 ∨ k = 1 ∨ k = 2 by omega) with rfl | rfl | rfl <;> rfl

end Go.Proofs.YthboebhghaabnaaGreatDoor

set_option linter.unusedSimpArgs false
set_option linter.unusedVariables false
namespace Go.Proofs.YthboebhghaabnaaGreatDoor
open Go.RowKit Go.Shelf Fk

set_option maxHeartbeats 400000 in
theorem rtimes10_any (x y : Int) (hx : 0 ≤ x ∧ x < 2147483579) (hy : 0 ≤ y ∧ y < 2147483579) (w : World) :
    Calls Tryz.prog 59 #[.int .i64 x, .int .i64 y] w fun e w' => e = .returned (.int .i64 (x * y % 2147483579)) ∧ w = w' := by
  have m := mul_sm hx hy
  obtain ⟨hx1, hx2⟩ := hx
  obtain ⟨hy1, hy2⟩ := hy
  go_enter Tryz.func59, Tryz.ntmps59
  go_wp2
  go_ret
  exact ⟨rfl, rfl⟩
set_option maxHeartbeats 400000 in
theorem rpow10_any (a n : Int) (w : World) :
    Calls Tryz.prog 60 #[.int .i64 a, .int .i64 n] w fun e w' => e = .returned (.int .i64 (powC a n)) ∧ w = w' := by
  generalize hp : powC a n = p
  generalize hq : powE a = q
  have hP := fun w => refpow_any a n w
  rw [hp, hq] at hP
  have HP := Lib.hid hP
  clear hP hp hq
  go_enter Tryz.func60, Tryz.ntmps60
  go_wp2_with (go_at_call 78; refine (HP.out _).mono ?_; rintro e w1 ⟨rfl, rfl⟩)
  go_ret
  exact ⟨rfl, rfl⟩

set_option maxHeartbeats 1000000 in
theorem rcheck_any (s : Se) (w : World) :
    Calls Tryz.prog 57 #[s.val] w fun e w' => e = .returned (.int .i64 (chS s)) ∧ Below w.heap.size w w' := by
  have hR0 : RowS (w.alloc (.cells s.cells.toArray 45)) w.heap.size s := Row.new w _ _
  have HR := Lib.hid hR0
  clear hR0
  unfold Se.val
  go_enter Tryz.func57, Tryz.ntmps57
  go_wp2_with fail
  have hB := below_alloc w (.cells s.cells.toArray 45)
  obtain ⟨W1, hW1⟩ : ∃ W1 : World, w.alloc (.cells #[.int .i64 s.x.a, .int .i64 s.x.b, .int .i64 s.y.a, .int .i64 s.y.b, .int .i64 s.z.a, .int .i64 s.z.b] 45) = W1 := ⟨_, rfl⟩
  rw [hW1]
  replace HR : Hid (RowS W1 w.heap.size s) := by rw [← hW1]; exact HR
  replace hB : Below w.heap.size w W1 := by rw [← hW1]; exact hB
  clear hW1
  go_loopg [3] 3 (fun g i wr => W1 = wr ∧ ∃ k : Nat, i = .int .i64 k ∧ k + g = 3 ∧ Hid (∀ i, i < k → okC (s.get i) = true))
  case atStart => exact ⟨rfl, 0, rfl, by omega, fun i hi => by omega⟩
  case round =>
    obtain ⟨rfl, k, rfl, hk, h4⟩ := hrel
    by_cases hlt : k < 3
    · have c1 := HR.out.ca hlt
      have c2 := HR.out.cb hlt
      have hok : okC (s.get k) = (vld (s.get k).a && vld (s.get k).b) := rfl
      have hbad := okS_bad (s := s) (i := k)
      obtain ⟨c, hsk⟩ : ∃ c, s.get k = c := ⟨_, rfl⟩
      rw [hsk] at c1 c2 hok hbad
      have hall : okC c = true → ∀ i, i < k + 1 → okC (s.get i) = true := fun hc i hi => by
        by_cases e : i = k
        · rw [e, hsk]; exact hc
        · exact h4.out i (by omega)
      have H4 := Lib.hid hall
      have HB := Lib.hid hbad
      have HO := Lib.hid hok
      have s5 : (0 : Int) ≤ k := by omega
      have s6 : (k : Int) < 3 := by omega
      clear hall hsk h4 hbad hok
      by_cases ha : vld c.a = true ∧ vld c.b = true
      · obtain ⟨ha, hb⟩ := ha
        go_wp2_with (go_at_call 28; refine (refvalid_any _ _).mono ?_; rintro e w' ⟨rfl, rfl⟩)
        go_roundg (gk - 1)
        case measure => omega
        case rel => exact ⟨rfl, k + 1, by go_num, by omega, H4.out (by rw [HO.out, ha, hb]; rfl)⟩
      · have hf : chS s = 100 := by unfold chS; rw [HB.out (by rw [HO.out]; cases hva : vld c.a <;> cases hvb : vld c.b <;> simp_all)]; rfl
        have HF := Lib.hid hf
        clear hf
        cases hva : vld c.a with
        | true =>
          have hvb : vld c.b = false := by cases hvb : vld c.b <;> simp_all
          clear ha
          go_wp2_with (go_at_call 28; refine (refvalid_any _ _).mono ?_; rintro e w' ⟨rfl, rfl⟩)
          go_ret
          exact ⟨ret_int HF.out.symm, hB⟩
        | false =>
          clear ha
          go_wp2_with (go_at_call 28; refine (refvalid_any _ _).mono ?_; rintro e w' ⟨rfl, rfl⟩)
          go_ret
          exact ⟨ret_int HF.out.symm, hB⟩
    · obtain rfl : k = 3 := by omega
      have hf : chS s = 0 := by unfold chS; rw [if_pos (okS_all h4.out)]
      have HF := Lib.hid hf
      clear hf h4
      go_wp2_with fail
      go_ret
      exact ⟨ret_int HF.out.symm, hB⟩
end Go.Proofs.YthboebhghaabnaaGreatDoor

set_option linter.unusedSimpArgs false
set_option linter.unusedVariables false
namespace Go.Proofs.YthboebhghaabnaaGreatDoor
open Go.RowKit Go.Shelf Fk

theorem z6_row {w : World} {n : Nat} (h : w.heap.size = n) : RowS (w.alloc (.cells #[.int .i64 0, .int .i64 0, .int .i64 0, .int .i64 0, .int .i64 0, .int .i64 0] 45)) n default := row_at h _ (default : Se).cells

set_option maxRecDepth 100000 in
set_option maxHeartbeats 2000000 in
theorem ragain_no (key : Int) (s : Se) (r : Tr) (w : World) (hv : vld key = false) :
    Calls Tryz.prog 31 #[.int .i64 key, s.val, r.val] w fun e w' => e = .returned (.tuple #[(default : Se).val, .int .i64 90]) ∧ Below w.heap.size w w' := by
  have hA := Ag.start s r w
  unfold Se.val Tr.val
  go_enter Tryz.func31, Tryz.ntmps31
  go_wp2_with (go_at_call 28; refine (refvalid_any _ _).mono ?_; rintro e w1 ⟨rfl, rfl⟩)
  exact bodyPost_ret (v := .tuple #[.agg #[.int .i64 0, .int .i64 0, .int .i64 0, .int .i64 0, .int .i64 0, .int .i64 0], .int .i64 90]) (by simp [results, Tryz.results31, go_sem]) rfl ⟨rfl, hA.b⟩
set_option maxRecDepth 100000 in
set_option maxHeartbeats 2000000 in
theorem ragain_bad (key : Int) (s : Se) (r : Tr) (w : World) (hv : vld key = true) (hc : okS s = false) :
    Calls Tryz.prog 31 #[.int .i64 key, s.val, r.val] w fun e w' => e = .returned (.tuple #[(default : Se).val, .int .i64 100]) ∧ Below w.heap.size w w' := by
  have hch := fun w => rcheck_any s w
  have e3 : chS s = 100 := by unfold chS; rw [hc]; rfl
  rw [e3] at hch
  have hA := fun (W : World) (hb : Below (((w.alloc (.cells s.cells.toArray 45)).alloc (.cells r.cells.toArray 56)).alloc (.cells (default : Se).cells.toArray 45)).heap.size (((w.alloc (.cells s.cells.toArray 45)).alloc (.cells r.cells.toArray 56)).alloc (.cells (default : Se).cells.toArray 45)) W) => (Ag.start s r w).below hb
  unfold Se.val at hch
  obtain ⟨D, hD⟩ : ∃ D : Se, (⟨⟨0, 0⟩, ⟨0, 0⟩, ⟨0, 0⟩⟩ : Se) = D := ⟨_, rfl⟩
  have HD := Lib.hid hD
  have HCH := Lib.hid hch
  have HA := Lib.hid hA
  clear e3 hch hA hD
  unfold Se.val Tr.val
  go_enter Tryz.func31, Tryz.ntmps31
  go_wp2_with (first
    | (go_at_call 28; refine (refvalid_any _ _).mono ?_; rintro e w1 ⟨rfl, rfl⟩)
    | (go_at_call 57; refine (HCH.out _).mono ?_; rintro e w1 ⟨rfl, hb⟩; replace hb := HA.out _ hb; have ho := hb.o; obtain ⟨q0, q1, q2, q3, q4, q5⟩ := ho.six; obtain ⟨f0, f1, f2, f3, f4, f5⟩ := ho.free))
  have h6 : Row ((((((w1.setCell ⟨w.heap.size + 1 + 1, 0, none⟩ (.int .i64 0)).setCell ⟨w.heap.size + 1 + 1, 1, none⟩ (.int .i64 0)).setCell ⟨w.heap.size + 1 + 1, 2, none⟩ (.int .i64 0)).setCell ⟨w.heap.size + 1 + 1, 3, none⟩ (.int .i64 0)).setCell ⟨w.heap.size + 1 + 1, 4, none⟩ (.int .i64 0)).setCell ⟨w.heap.size + 1 + 1, 5, none⟩ (.int .i64 0)) (w.heap.size + 1 + 1) 45 [.int .i64 0, .int .i64 0, .int .i64 0, .int .i64 0, .int .i64 0, .int .i64 0] :=
    Row.store (Row.store (Row.store (Row.store (Row.store (Row.store ho 0 _) 1 _) 2 _) 3 _) 4 _) 5 _
  have hB6 : Below w.heap.size w ((((((w1.setCell ⟨w.heap.size + 1 + 1, 0, none⟩ (.int .i64 0)).setCell ⟨w.heap.size + 1 + 1, 1, none⟩ (.int .i64 0)).setCell ⟨w.heap.size + 1 + 1, 2, none⟩ (.int .i64 0)).setCell ⟨w.heap.size + 1 + 1, 3, none⟩ (.int .i64 0)).setCell ⟨w.heap.size + 1 + 1, 4, none⟩ (.int .i64 0)).setCell ⟨w.heap.size + 1 + 1, 5, none⟩ (.int .i64 0)) :=
    (((((hb.b.setCell (by simp only []; omega) _).setCell (by simp only []; omega) _).setCell (by simp only []; omega) _).setCell (by simp only []; omega) _).setCell (by simp only []; omega) _).setCell (by simp only []; omega) _
  generalize ((((((w1.setCell ⟨w.heap.size + 1 + 1, 0, none⟩ (.int .i64 0)).setCell ⟨w.heap.size + 1 + 1, 1, none⟩ (.int .i64 0)).setCell ⟨w.heap.size + 1 + 1, 2, none⟩ (.int .i64 0)).setCell ⟨w.heap.size + 1 + 1, 3, none⟩ (.int .i64 0)).setCell ⟨w.heap.size + 1 + 1, 4, none⟩ (.int .i64 0)).setCell ⟨w.heap.size + 1 + 1, 5, none⟩ (.int .i64 0)) = W6 at *
  have p0 := Row.cell h6 0
  have p1 := Row.cell h6 1
  have p2 := Row.cell h6 2
  have p3 := Row.cell h6 3
  have p4 := Row.cell h6 4
  have p5 := Row.cell h6 5
  simp only [List.getElem?_cons_zero, List.getElem?_cons_succ] at p0 p1 p2 p3 p4 p5
  exact bodyPost_ret (v := .tuple #[.agg #[.int .i64 0, .int .i64 0, .int .i64 0, .int .i64 0, .int .i64 0, .int .i64 0], .int .i64 100]) (by simp [results, Tryz.results31, go_sem, p0, p1, p2, p3, p4, p5]) rfl ⟨rfl, hB6⟩

theorem mapTo_inR {s : Se} {f : Nat → Ci → Ci} {k : Nat} (hk : k < 3) (h : inR s) : (0 ≤ ((s.mapTo f k).get k).a ∧ ((s.mapTo f k).get k).a < 2147483579) ∧ (0 ≤ ((s.mapTo f k).get k).b ∧ ((s.mapTo f k).get k).b < 2147483579) := by
  rw [mapTo_get f s hk]; exact h k hk

set_option maxRecDepth 100000 in
set_option maxHeartbeats 4000000 in
theorem ragain_ok (key : Int) (s : Se) (r : Tr) (w : World) (hv : vld key = true) (hc : okS s = true) :
    Calls Tryz.prog 31 #[.int .i64 key, s.val, r.val] w fun e w' => e = .returned (.tuple #[(s.map (moreC key r)).val, .int .i64 0]) ∧ Below w.heap.size w w' := by
  have hch := fun w => rcheck_any s w
  have e3 : chS s = 0 := by unfold chS; rw [hc]; rfl
  rw [e3] at hch
  have hin := okS_inR hc
  have hA := fun (W : World) (hb : Below (((w.alloc (.cells s.cells.toArray 45)).alloc (.cells r.cells.toArray 56)).alloc (.cells (default : Se).cells.toArray 45)).heap.size (((w.alloc (.cells s.cells.toArray 45)).alloc (.cells r.cells.toArray 56)).alloc (.cells (default : Se).cells.toArray 45)) W) => (Ag.start s r w).below hb
  obtain ⟨t, ht⟩ : ∃ t : Se, s.map (moreC key r) = t := ⟨_, rfl⟩
  rw [ht]
  unfold Se.val at hch
  have HCH := Lib.hid hch
  have HA := Lib.hid hA
  have HIN := Lib.hid hin
  have HT := Lib.hid ht
  clear e3 hch hA hin ht
  unfold Se.val Tr.val
  go_enter Tryz.func31, Tryz.ntmps31
  go_wp2_with (first
    | (go_at_call 28; refine (refvalid_any _ _).mono ?_; rintro e w1 ⟨rfl, rfl⟩)
    | (go_at_call 57; refine (HCH.out _).mono ?_; rintro e w1 ⟨rfl, hb⟩; replace hb := HA.out _ hb))
  go_loopg [8] 3 (fun g i wr => Below w.heap.size w wr ∧ ∃ k : Nat, i = .int .i64 k ∧ k + g = 3 ∧ RowS wr w.heap.size (s.mapTo (moreC key r) k) ∧ Row wr (w.heap.size + 1) 56 r.cells ∧ RowS wr (w.heap.size + 1 + 1) default)
  case atStart => exact ⟨hb.b, 0, rfl, by omega, hb.s, hb.r, hb.o⟩
  case round =>
    clear hb
    obtain ⟨hBr, k, rfl, hk, hs, hr, ho⟩ := hrel
    have hzz := Row.lt ho
    by_cases hlt : k < 3
    · have c1 := hs.ca hlt
      have c2 := hs.cb hlt
      have c3 := RowT_get hr hlt
      obtain ⟨i1, i2⟩ := mapTo_inR (f := moreC key r) hlt HIN.out
      have hst := mapTo_set (moreC key r) s hlt
      have hg := mapTo_get (moreC key r) s hlt
      rw [← hg] at hst
      have hsc := set_cells (s.mapTo (moreC key r) k) (moreC key r k ((s.mapTo (moreC key r) k).get k)) hlt
      rw [hst] at hsc
      have hmo : moreC key r k ((s.mapTo (moreC key r) k).get k) = ⟨((s.mapTo (moreC key r) k).get k).a * powC 4 (r.get k) % 2147483579, ((s.mapTo (moreC key r) k).get k).b * powC key (r.get k) % 2147483579⟩ := rfl
      rw [hmo] at hsc
      obtain ⟨c, hc⟩ : ∃ c, (s.mapTo (moreC key r) k).get k = c := ⟨_, rfl⟩
      obtain ⟨ri, hri⟩ : ∃ ri, r.get k = ri := ⟨_, rfl⟩
      rw [hc] at c1 c2 i1 i2 hsc
      rw [hri] at c3 hsc
      have p1 := powC_bd 4 ri
      have p2 := powC_bd key ri
      have q1 := fun w => rpow10_any 4 ri w
      have q2 := fun w => rpow10_any key ri w
      generalize powC 4 ri = x1 at *
      generalize powC key ri = x2 at *
      have f1 := Row.frozen hs (k * 2)
      have f2 := Row.frozen hs (k * 2 + 1)
      have HSC := Lib.hid hsc
      have Q1 := Lib.hid q1
      have Q2 := Lib.hid q2
      have s1 : (0 : Int) ≤ k := by omega
      have s2 : (k : Int) < 3 := by omega
      clear hst hg hsc hmo hc hri q1 q2
      go_wp2_with fail
      have hzz2 : w.heap.size + 1 + 1 < wr.drew.heap.size := hzz
      replace hs : RowS wr.drew w.heap.size (s.mapTo (moreC key r) k) := Row.keep hs rfl
      replace hr : Row wr.drew (w.heap.size + 1) 56 r.cells := Row.keep hr rfl
      replace ho : RowS wr.drew (w.heap.size + 1 + 1) default := Row.keep ho rfl
      replace hBr : Below w.heap.size w wr.drew := hBr.drew
      replace c1 : wr.drew.cell? ⟨w.heap.size, k * 2, none⟩ = some (.int .i64 c.a) := c1
      replace c2 : wr.drew.cell? ⟨w.heap.size, k * 2 + 1, none⟩ = some (.int .i64 c.b) := c2
      replace c3 : wr.drew.cell? ⟨w.heap.size + 1, k, none⟩ = some (.int .i64 ri) := c3
      replace f1 : wr.drew.frozen? ⟨w.heap.size, k * 2, none⟩ = false := f1
      replace f2 : wr.drew.frozen? ⟨w.heap.size, k * 2 + 1, none⟩ = false := f2
      obtain ⟨W1, hW1⟩ : ∃ W1 : World, wr.drew = W1 := ⟨_, rfl⟩
      rw [hW1] at hs hr ho hBr c1 c2 c3 f1 f2 hzz2
      refine wp_region_ord 21 [(1, 0), (1, 1), (1, 2), (1, 3), (1, 4), (1, 5), (1, 6), (1, 7), (1, 10), (1, 11), (1, 12), (1, 13), (1, 14), (1, 15), (1, 16), (1, 17), (2, 8), (2, 9), (2, 18), (2, 19), (1, 20)]
        (fun w' => W1 = w') (by kernel_rfl) (by kernel_rfl) (fun _ _ d _ _ h => by cases d <;> exact h) hW1.symm ?_
      rw [hW1]
      clear hW1 hzz
      iterate 16
        refine wpOrd_take (v := ?_) rfl (by rfl) (fun w hSw => ?_) ?_
        rotate_left 1
        · subst hSw
          go_simp
          with_reducible rfl
        simp only [Act.put, List.setIfInBounds_toArray, List.set_cons_zero, List.set_cons_succ]
      refine wpOrd_step rfl (fun K hK => ⟨by rfl, ?_⟩)
      go_simp
      go_at_call 60
      refine (Q1.out _).mono ?_
      rintro e w2 ⟨rfl, rfl⟩
      refine hK _ _ rfl ?_
      clear hK K
      refine wpOrd_step rfl (fun K hK => ⟨by rfl, ?_⟩)
      go_simp
      go_at_call 59
      refine (rtimes10_any _ _ i1 p1 _).mono ?_
      rintro e w2 ⟨rfl, rfl⟩
      refine hK _ _ rfl ?_
      clear hK K
      refine wpOrd_step rfl (fun K hK => ⟨by rfl, ?_⟩)
      go_simp
      go_at_call 60
      refine (Q2.out _).mono ?_
      rintro e w2 ⟨rfl, rfl⟩
      refine hK _ _ rfl ?_
      clear hK K
      refine wpOrd_step rfl (fun K hK => ⟨by rfl, ?_⟩)
      go_simp
      go_at_call 59
      refine (rtimes10_any _ _ i2 p2 _).mono ?_
      rintro e w2 ⟨rfl, rfl⟩
      refine hK _ _ rfl ?_
      clear hK K
      refine wpOrd_take (v := ?_) rfl (by rfl) (fun w hSw => ?_) ?_
      rotate_left 1
      · go_simp
        with_reducible rfl
      simp only [Act.put, List.setIfInBounds_toArray, List.set_cons_zero, List.set_cons_succ]
      refine wpOrd_nil ?_
      simp only [List.drop_succ_cons, List.drop_zero]
      have hs2 : RowS ((W1.setCell ⟨w.heap.size, k * 2, none⟩ (.int .i64 (c.a * x1 % 2147483579))).setCell ⟨w.heap.size, k * 2 + 1, none⟩ (.int .i64 (c.b * x2 % 2147483579))) w.heap.size (s.mapTo (moreC key r) (k + 1)) := by
        show Row _ _ _ _
        rw [HSC.out]
        exact Row.store (Row.store hs (k * 2) _) (k * 2 + 1) _
      have hr2 : Row ((W1.setCell ⟨w.heap.size, k * 2, none⟩ (.int .i64 (c.a * x1 % 2147483579))).setCell ⟨w.heap.size, k * 2 + 1, none⟩ (.int .i64 (c.b * x2 % 2147483579))) (w.heap.size + 1) 56 r.cells := Row.other (Row.other hr (by simp) _) (by simp) _
      have ho2 : RowS ((W1.setCell ⟨w.heap.size, k * 2, none⟩ (.int .i64 (c.a * x1 % 2147483579))).setCell ⟨w.heap.size, k * 2 + 1, none⟩ (.int .i64 (c.b * x2 % 2147483579))) (w.heap.size + 1 + 1) default := Row.other (Row.other ho (by simp; omega) _) (by simp; omega) _
      have hB2 : Below w.heap.size w ((W1.setCell ⟨w.heap.size, k * 2, none⟩ (.int .i64 (c.a * x1 % 2147483579))).setCell ⟨w.heap.size, k * 2 + 1, none⟩ (.int .i64 (c.b * x2 % 2147483579))) := ((hBr.setCell (by simp) _).setCell (by simp) _)
      have f3 : (W1.setCell ⟨w.heap.size, k * 2, none⟩ (.int .i64 (c.a * x1 % 2147483579))).frozen? ⟨w.heap.size, k * 2 + 1, none⟩ = false := Row.frozen (Row.store hs (k * 2) _) _
      have c4 : (W1.setCell ⟨w.heap.size, k * 2, none⟩ (.int .i64 (c.a * x1 % 2147483579))).cell? ⟨w.heap.size, k * 2 + 1, none⟩ = some (.int .i64 c.b) := (World.cell?_setCell_other _ _ _ _ (fun e => by injection e; omega)).trans c2
      have H1 := Lib.hid hs2
      have H2 := Lib.hid hr2
      have H3 := Lib.hid ho2
      have H4 := Lib.hid hB2
      clear hs2 hr2 ho2 hB2 hs hr ho hBr
      go_wp2_with fail
      go_roundg (gk - 1)
      case measure => omega
      case rel => exact ⟨H4.out, k + 1, by go_num, by omega, H1.out, H2.out, H3.out⟩
    · obtain rfl : k = 3 := by omega
      rw [Se.mapTo_three, HT.out] at hs
      obtain ⟨f0, f1, f2, f3, f4, f5⟩ := ho.free
      obtain ⟨u0, u1, u2, u3, u4, u5⟩ := ho.six
      obtain ⟨q0, q1, q2, q3, q4, q5⟩ := hs.six
      go_wp2_with fail
      have h6 : RowS ((((((wr.setCell ⟨w.heap.size + 1 + 1, 0, none⟩ (.int .i64 t.x.a)).setCell ⟨w.heap.size + 1 + 1, 1, none⟩ (.int .i64 t.x.b)).setCell ⟨w.heap.size + 1 + 1, 2, none⟩ (.int .i64 t.y.a)).setCell ⟨w.heap.size + 1 + 1, 3, none⟩ (.int .i64 t.y.b)).setCell ⟨w.heap.size + 1 + 1, 4, none⟩ (.int .i64 t.z.a)).setCell ⟨w.heap.size + 1 + 1, 5, none⟩ (.int .i64 t.z.b)) (w.heap.size + 1 + 1) t := Row.store (Row.store (Row.store (Row.store (Row.store (Row.store ho 0 _) 1 _) 2 _) 3 _) 4 _) 5 _
      have hB6 : Below w.heap.size w ((((((wr.setCell ⟨w.heap.size + 1 + 1, 0, none⟩ (.int .i64 t.x.a)).setCell ⟨w.heap.size + 1 + 1, 1, none⟩ (.int .i64 t.x.b)).setCell ⟨w.heap.size + 1 + 1, 2, none⟩ (.int .i64 t.y.a)).setCell ⟨w.heap.size + 1 + 1, 3, none⟩ (.int .i64 t.y.b)).setCell ⟨w.heap.size + 1 + 1, 4, none⟩ (.int .i64 t.z.a)).setCell ⟨w.heap.size + 1 + 1, 5, none⟩ (.int .i64 t.z.b)) := (((((hBr.setCell (by simp only []; omega) _).setCell (by simp only []; omega) _).setCell (by simp only []; omega) _).setCell (by simp only []; omega) _).setCell (by simp only []; omega) _).setCell (by simp only []; omega) _
      generalize ((((((wr.setCell ⟨w.heap.size + 1 + 1, 0, none⟩ (.int .i64 t.x.a)).setCell ⟨w.heap.size + 1 + 1, 1, none⟩ (.int .i64 t.x.b)).setCell ⟨w.heap.size + 1 + 1, 2, none⟩ (.int .i64 t.y.a)).setCell ⟨w.heap.size + 1 + 1, 3, none⟩ (.int .i64 t.y.b)).setCell ⟨w.heap.size + 1 + 1, 4, none⟩ (.int .i64 t.z.a)).setCell ⟨w.heap.size + 1 + 1, 5, none⟩ (.int .i64 t.z.b)) = W6 at *
      obtain ⟨p0, p1, p2, p3, p4, p5⟩ := h6.six
      exact bodyPost_ret (v := .tuple #[.agg #[.int .i64 t.x.a, .int .i64 t.x.b, .int .i64 t.y.a, .int .i64 t.y.b, .int .i64 t.z.a, .int .i64 t.z.b], .int .i64 0]) (by simp [results, Tryz.results31, go_sem, p0, p1, p2, p3, p4, p5]) rfl ⟨rfl, hB6⟩
theorem ragain_any (key : Int) (s : Se) (r : Tr) (w : World) :
    Calls Tryz.prog 31 #[.int .i64 key, s.val, r.val] w fun e w' => e = .returned (.tuple #[(againC key s r).val, .int .i64 (againE key s)]) ∧ Below w.heap.size w w' := by
  cases hv : vld key with
  | false =>
    have e1 : againC key s r = default := by unfold againC; rw [hv]; rfl
    have e2 : againE key s = 90 := by unfold againE; rw [hv]; rfl
    rw [e1, e2]; exact ragain_no key s r w hv
  | true =>
    cases hc : okS s with
    | false =>
      have e1 : againC key s r = default := by unfold againC; rw [hv, hc]; rfl
      have e2 : againE key s = 100 := by unfold againE chS; rw [hv, hc]; rfl
      rw [e1, e2]; exact ragain_bad key s r w hv hc
    | true =>
      have e1 : againC key s r = s.map (moreC key r) := by unfold againC; rw [hv, hc]; rfl
      have e2 : againE key s = 0 := by unfold againE chS; rw [hv, hc]; rfl
      rw [e1, e2]; exact ragain_ok key s r w hv hc
end Go.Proofs.YthboebhghaabnaaGreatDoor

set_option linter.unusedSimpArgs false
set_option linter.unusedVariables false
namespace Go.Proofs.YthboebhghaabnaaGreatDoor
open Go.RowKit Fk Sha
/-! The references that ShuffleNoticed asks first: Check, Formed. -/
theorem form_no {l : List Se} {k : Nat} (hk : k < l.length) (h : okS (l.getD k default) = false) : l.all okS = false := by
  rw [Bool.eq_false_iff]
  intro ha
  have := List.all_eq_true.1 ha _ (mem_getD hk)
  rw [h] at this; cases this
theorem form_yes {l : List Se} (h : ∀ j, j < l.length → okS (l.getD j default) = true) : l.all okS = true := by
  rw [List.all_eq_true]
  intro x hx
  obtain ⟨i, hi, rfl⟩ := List.getElem_of_mem hx
  have := h i hi
  rwa [getD_eq_getElem' hi] at this
set_option maxRecDepth 100000 in
set_option maxHeartbeats 1000000 in
theorem rformed10_any (l : List Se) (v : Value) (w : World) (h : SlS w w.heap.size v l) :
    Calls Tryz.prog 29 #[v] w fun e w' => e = .returned (.bool (l.all okS)) ∧ Below w.heap.size w w' := by
  have HS := Lib.hid h
  obtain ⟨hlen, A, c, rfl, _⟩ := h
  go_enter Tryz.func29, Tryz.ntmps29
  go_wp2
  go_loopg [3] l.length (fun g i wr => Below w.heap.size w wr ∧ ∃ k : Nat, i = .int .i64 k ∧ k + g = l.length ∧ ∀ j, j < k → okS (l.getD j default) = true)
  case atStart => exact ⟨Below.refl _ _, 0, rfl, by omega, fun j hj => by omega⟩
  case round =>
    obtain ⟨hBr, k, rfl, hk, hgood⟩ := hrel
    by_cases hlt : k < l.length
    · obtain ⟨b, off, e0, hb, d⟩ := sl_at (HS.out.below hBr) hlt
      subst e0
      have hno := form_no (l := l) hlt
      have hnx : okS (l.getD k default) = true → ∀ j, j < k + 1 → okS (l.getD j default) = true := fun h j hj => by
        rcases Nat.lt_or_ge j k with h1 | h1
        · exact hgood j h1
        · obtain rfl : j = k := by omega
          exact h
      have RC := fun W => rcheck_any (l.getD k default) W
      have c0 : wr.cell? ⟨b, off + k * 6, none⟩ = some (.int .i64 (l.getD k default).x.a) := d 0 (by omega)
      have c1 : wr.cell? ⟨b, off + k * 6 + 1, none⟩ = some (.int .i64 (l.getD k default).x.b) := d 1 (by omega)
      have c2 : wr.cell? ⟨b, off + k * 6 + 2, none⟩ = some (.int .i64 (l.getD k default).y.a) := d 2 (by omega)
      have c3 : wr.cell? ⟨b, off + k * 6 + 3, none⟩ = some (.int .i64 (l.getD k default).y.b) := d 3 (by omega)
      have c4 : wr.cell? ⟨b, off + k * 6 + 4, none⟩ = some (.int .i64 (l.getD k default).z.a) := d 4 (by omega)
      have c5 : wr.cell? ⟨b, off + k * 6 + 5, none⟩ = some (.int .i64 (l.getD k default).z.b) := d 5 (by omega)
      have hch : chS (l.getD k default) = if okS (l.getD k default) then 0 else 100 := rfl
      generalize l.getD k default = x at *
      unfold Se.val at RC
      have s1 : (0 : Int) ≤ k := by omega
      have s2 : (k : Int) < l.length := by omega
      have HN := Lib.hid hno
      have HX := Lib.hid hnx
      clear hno hnx hgood d
      cases ho : okS x with
      | true =>
        rw [ho, if_pos rfl] at hch
        rw [hch] at RC
        have q := Lib.hid (HX.out ho)
        have RCC := Lib.hid RC
        clear RC hch HX HN ho
        go_wp2_with (go_at_call 57; (with_reducible refine (RCC.out _).mono ?_); rintro e w1 ⟨rfl, hb1⟩)
        go_roundg (gk - 1)
        case measure => omega
        case rel => exact ⟨hBr.trans (hb1.mono hBr.size), k + 1, by first | rfl | go_num, by omega, q.out⟩
      | false =>
        rw [ho, if_neg (by decide)] at hch
        rw [hch] at RC
        have q := Lib.hid (HN.out ho)
        have RCC := Lib.hid RC
        clear RC hch HX HN ho
        go_wp2_with (go_at_call 57; (with_reducible refine (RCC.out _).mono ?_); rintro e w1 ⟨rfl, hb1⟩)
        go_ret
        exact ⟨ret_bool q.out.symm, hBr.trans (hb1.mono hBr.size)⟩
    · have q := Lib.hid (form_yes (l := l) fun j hj => hgood j (by omega))
      clear hgood
      go_wp2
      go_ret
      exact ⟨ret_bool q.out.symm, hBr⟩
end Go.Proofs.YthboebhghaabnaaGreatDoor

set_option linter.unusedSimpArgs false
set_option linter.unusedVariables false
namespace Go.Proofs.YthboebhghaabnaaGreatDoor
open Go.RowKit Fk Sha
/-! The reference of law 14: bits, permutations. -/
theorem bits_no {l : List Int} {k : Nat} (hk : k < l.length) (h0 : l.getD k default ≠ 0) (h1 : l.getD k default ≠ 1) : l.all bitB = false := by
  rw [Bool.eq_false_iff]
  intro h
  rcases bit_at h hk with h | h
  · exact h0 h
  · exact h1 h
theorem bits_yes {l : List Int} (h : ∀ j, j < l.length → l.getD j default = 0 ∨ l.getD j default = 1) : l.all bitB = true := by
  rw [List.all_eq_true]
  intro x hx
  obtain ⟨j, hj, rfl⟩ := List.getElem_of_mem hx
  have := h j hj
  rw [getD_eq_getElem' hj] at this
  unfold bitB
  rcases this with e | e <;> rw [e] <;> rfl
set_option maxRecDepth 100000 in
set_option maxHeartbeats 1000000 in
theorem rbits_any (l : List Int) (v : Value) (w : World) (h : SlI w w.heap.size v l) :
    Calls Tryz.prog 38 #[v] w fun e w' => e = .returned (.bool (l.all bitB)) ∧ Below w.heap.size w w' := by
  have HS := Lib.hid h
  obtain ⟨hlen, A, c, rfl, _⟩ := h
  go_enter Tryz.func38, Tryz.ntmps38
  go_wp2
  go_loopg [3] l.length (fun g i wr => Below w.heap.size w wr ∧ ∃ k : Nat, i = .int .i64 k ∧ k + g = l.length ∧ ∀ j, j < k → l.getD j default = 0 ∨ l.getD j default = 1)
  case atStart => exact ⟨Below.refl _ _, 0, rfl, by omega, fun j hj => by omega⟩
  case round =>
    obtain ⟨hBr, k, rfl, hk, hgood⟩ := hrel
    by_cases hlt : k < l.length
    · obtain ⟨_, A', c', hv, hE⟩ := HS.out.below hBr
      obtain ⟨b, off, rfl, hb, hE⟩ := hE (by omega)
      cases hv
      have d1 := hE.int hlt
      have hno := bits_no (l := l) hlt
      have hnx : (l.getD k default = 0 ∨ l.getD k default = 1) → ∀ j, j < k + 1 → l.getD j default = 0 ∨ l.getD j default = 1 := fun h j hj => by
        rcases Nat.lt_or_ge j k with h1 | h1
        · exact hgood j h1
        · obtain rfl : j = k := by omega
          exact h
      generalize l.getD k default = x at d1 hno hnx
      clear hE hgood
      have HN := Lib.hid hno
      have HX := Lib.hid hnx
      clear hno hnx
      by_cases h0 : x = 0
      · subst h0
        have q := Lib.hid (HX.out (.inl rfl))
        go_wp2
        go_roundg (gk - 1)
        case measure => omega
        case rel => exact ⟨hBr, k + 1, by go_num, by omega, q.out⟩
      by_cases h1 : x = 1
      · subst h1
        have q := Lib.hid (HX.out (.inr rfl))
        go_wp2
        go_roundg (gk - 1)
        case measure => omega
        case rel => exact ⟨hBr, k + 1, by go_num, by omega, q.out⟩
      have q := Lib.hid (HN.out h0 h1)
      have s0 : (x != 0) = true := by simpa using h0
      have s1 : (x != 1) = true := by simpa using h1
      clear h0 h1
      go_wp2
      go_ret
      exact ⟨ret_bool q.out.symm, hBr⟩
    · have q := Lib.hid (bits_yes (l := l) fun j hj => hgood j (by omega))
      clear hgood
      go_wp2
      go_ret
      exact ⟨ret_bool q.out.symm, hBr⟩
def atB (l : List Int) (k : Nat) : Prop := (0 ≤ l.getD k default ∧ l.getD k default < l.length) ∧ ∀ j, j < k → l.getD j default ≠ l.getD k default
theorem perm_yes {l : List Int} (h : ∀ k, k < l.length → atB l k) : permB l = true := by
  refine permB_iff.2 ⟨nodup_of_inj fun i j hij hj => (h j hj).2 i hij, fun x hx => ?_⟩
  obtain ⟨j, hj, rfl⟩ := List.getElem_of_mem hx
  have := (h j hj).1
  rw [getD_eq_getElem' hj] at this
  exact this
theorem perm_no {l : List Int} {k : Nat} (hk : k < l.length) (h : ¬ atB l k) : permB l = false := by
  rw [Bool.eq_false_iff]
  intro hp
  refine h ⟨permB_at hp hk, fun j hj e => ?_⟩
  have := nodup_inj (permB_iff.1 hp).1 (by omega) hk e
  omega
set_option maxRecDepth 100000 in
set_option maxHeartbeats 2000000 in
theorem rperm_any (l : List Int) (v : Value) (w : World) (h : SlI w w.heap.size v l) :
    Calls Tryz.prog 58 #[v] w fun e w' => e = .returned (.bool (permB l)) ∧ Below w.heap.size w w' := by
  have HS := Lib.hid h
  obtain ⟨hlen, A, c, rfl, _⟩ := h
  go_enter Tryz.func58, Tryz.ntmps58
  go_wp2
  go_loopg [3] l.length (fun g i wr => Below w.heap.size w wr ∧ ∃ k : Nat, i = .int .i64 k ∧ k + g = l.length ∧ (∀ j, j < k → atB l j))
  case atStart => exact ⟨Below.refl _ _, 0, rfl, by omega, fun j hj => by omega⟩
  case round =>
    obtain ⟨hBr, k, rfl, hk, hgood⟩ := hrel
    by_cases hlt : k < l.length
    · obtain ⟨_, A', c', hv, hE0⟩ := HS.out.below hBr
      obtain ⟨b, off, rfl, hb, hE⟩ := hE0 (by omega)
      clear hE0
      cases hv
      have d1 := hE.int hlt
      have hNo : ¬ atB l k → permB l = false := perm_no hlt
      have hAt : ∀ x, l.getD k default = x → (0 ≤ x ∧ x < l.length) → (∀ j, j < k → l.getD j default ≠ x) → atB l k := fun x hx h1 h2 => by unfold atB; rw [hx]; exact ⟨h1, h2⟩
      have hAt2 : ∀ x, l.getD k default = x → atB l k → (0 ≤ x ∧ x < l.length) ∧ ∀ j, j < k → l.getD j default ≠ x := fun x hx h1 => by unfold atB at h1; rw [hx] at h1; exact h1
      have hsn : atB l k → ∀ j, j < k + 1 → atB l j := fun h j hj => by
        rcases Nat.lt_or_ge j k with h1 | h1
        · exact hgood j h1
        · obtain rfl : j = k := by omega
          exact h
      obtain ⟨x, hx⟩ : ∃ x, l.getD k default = x := ⟨_, rfl⟩
      have HA := Lib.hid (hAt x hx)
      have HA2 := Lib.hid (hAt2 x hx)
      have HN := Lib.hid hNo
      have HG := Lib.hid hsn
      rw [hx] at d1
      clear hx hAt hAt2 hE hgood hNo hsn
      by_cases ha1 : x < 0
      · have q := Lib.hid (HN.out (fun hc => by have := (HA2.out hc).1.1; omega))
        go_wp2
        all_goals go_ret
        all_goals exact ⟨ret_bool q.out.symm, hBr⟩
      by_cases ha2 : (l.length : Int) ≤ x
      · have q := Lib.hid (HN.out (fun hc => by have := (HA2.out hc).1.2; omega))
        go_wp2
        all_goals go_ret
        all_goals exact ⟨ret_bool q.out.symm, hBr⟩
      obtain ⟨G, rfl⟩ : ∃ G : Nat, G = gk := ⟨_, rfl⟩
      obtain ⟨wo, rfl⟩ : ∃ wo : World, wo = wr := ⟨_, rfl⟩
      go_wp2
      go_loopg [4] k (fun g i wr2 => Below wo.heap.size wo wr2 ∧ ∃ k2 : Nat, i = .int .i64 k2 ∧ k2 + g = k ∧ (∀ j, j < k2 → l.getD j default ≠ x))
      case atStart => exact ⟨Below.refl _ _, 0, rfl, by omega, fun j hj => by omega⟩
      case round =>
        obtain ⟨hBi, k2, rfl, hk2, hne⟩ := hrel
        have hBw : Below w.heap.size w wr := hBr.trans (hBi.mono hBr.size)
        by_cases hlt2 : k2 < k
        · obtain ⟨_, A3, c3, hv, hE1⟩ := HS.out.below hBw
          obtain ⟨b2, off2, e3, hb2, hE2⟩ := hE1 (by omega)
          clear hE1
          subst e3
          injection hv with e1 _ e2
          injection e1 with e1
          injection e1 with e3 e4
          subst e3 e4 e2
          have f1 := hE2.int (i := k2) (by omega)
          have D := (bcellK hBi).1 b (off + k) (by have := hBr.size; omega)
          have hcell : wr.cell? ⟨b, off + k, none⟩ = some (.int .i64 x) := D.trans d1
          have hnx : l.getD k2 default ≠ x → ∀ j, j < k2 + 1 → l.getD j default ≠ x := fun h j hj => by
            rcases Nat.lt_or_ge j k2 with h1 | h1
            · exact hne j h1
            · obtain rfl : j = k2 := by omega
              exact h
          have hbad : l.getD k2 default = x → ¬ atB l k := fun e hc => (HA2.out hc).2 k2 hlt2 e
          clear hE2 D d1
          obtain ⟨y, hy⟩ : ∃ y, l.getD k2 default = y := ⟨_, rfl⟩
          rw [hy] at f1 hnx hbad
          have HX := Lib.hid hnx
          have HBad := Lib.hid hbad
          clear hy hne hnx hbad
          have s1 : (k2 : Int) < (k : Int) := by omega
          have s2 : (0 : Int) ≤ (k2 : Int) := by omega
          have s3 : ((k2 : Int)).toNat = k2 := by omega
          have s4 : (k2 : Int) < l.length := by omega
          have s5 : (0 : Int) ≤ (k : Int) := by omega
          have s6 : ((k : Int)).toNat = k := by omega
          have s7 : (k : Int) < l.length := by omega
          by_cases hya : y = x
          · have q := Lib.hid (HN.out (HBad.out hya))
            have s8 : (y == x) = true := by simpa using hya
            clear hya
            go_wp2
            go_quiet (fail)
            clear s1 s2 s3 s4 s5 s6 s7
            go_wp2
            all_goals go_ret
            all_goals exact ⟨ret_bool q.out.symm, by first | exact hBw | exact below_drewN hBw _ | exact hBw.trans (below_drewN _ _ _)⟩
          · have hnx2 := Lib.hid (HX.out hya)
            have s8 : (y == x) = false := by simpa using hya
            clear hya
            go_wp2
            go_quiet (fail)
            clear s1 s2 s3 s4 s5 s6 s7
            go_wp2
            go_roundg (gk - 1)
            case measure => omega
            case rel => exact ⟨by first | exact hBi | exact below_drewN hBi _ | exact hBi.trans (below_drewN _ _ _), k2 + 1, by go_num, by omega, hnx2.out⟩
        · have hAt := Lib.hid (HG.out (HA.out ⟨by omega, by omega⟩ (fun j hj => hne j (by omega))))
          clear hne
          go_wp2
          go_roundg (G - 1)
          case measure => omega
          case rel => exact ⟨hBw, k + 1, by go_num, by omega, hAt.out⟩
    · have q := Lib.hid (perm_yes (l := l) fun i hi => hgood i (by omega))
      clear hgood
      go_wp2
      go_ret
      exact ⟨ret_bool q.out.symm, hBr⟩
end Go.Proofs.YthboebhghaabnaaGreatDoor

set_option linter.unusedSimpArgs false
set_option linter.unusedVariables false
namespace Go.Proofs.YthboebhghaabnaaGreatDoor
open Go.RowKit Fk Sha
/-! The reference of law 14: the places of letters, and the whole. -/
theorem leftTo_succ (bits : List Int) (l o : List Og) (k : Nat) : leftTo bits l o (k + 1) = leftTo bits l o k ++ [leftAt bits l o k] := map_range_snoc _ _
theorem rightTo_succ (bits : List Int) (l o : List Og) (k : Nat) : rightTo bits l o (k + 1) = rightTo bits l o k ++ [rightAt bits l o k] := map_range_snoc _ _
end Go.Proofs.YthboebhghaabnaaGreatDoor

set_option linter.unusedSimpArgs false
set_option linter.unusedVariables false
namespace Go.Proofs.YthboebhghaabnaaGreatDoor
open Go.RowKit Fk Sha
/-! The reference of law 14: two openings put together. -/
end Go.Proofs.YthboebhghaabnaaGreatDoor

set_option linter.unusedSimpArgs false
set_option linter.unusedVariables false
namespace Go.Proofs.YthboebhghaabnaaGreatDoor
open Go.RowKit Fk Sha
/-! The reference of law 14: the halves of a letter; turns that are right; Open and Trace. -/
set_option maxRecDepth 100000 in
set_option maxHeartbeats 8000000 in
theorem rhalf0_any (t : Tn) (x : TnA) (j : Nat) (w : World) (h : TnS w w.heap.size x t) (hl : j < t.l.length) (hrl : j < t.rl.length) (hs : j < t.s.length) (h64 : (t.s.getD j default).length = 64) :
    Calls Tryz.prog 33 #[.agg (x.cells t).toArray, .int .i64 j, .int .i64 0] w fun e w' => e = .returned (.agg (ogL t j).cells.toArray) ∧ Below w.heap.size w w' := by
  have hB := (below_alloc' w (.cells (x.cells t).toArray 27)).alloc (by simp) (.cells zOgC.toArray 60)
  have r0 := Row.new w 27 (x.cells t)
  have r1 := r0.alloc (.cells zOgC.toArray 60)
  have r2 := Row.new (w.alloc (.cells (x.cells t).toArray 27)) 60 zOgC
  rw [World.size_alloc] at r2
  have h2 := h.below hB
  obtain ⟨W, hW⟩ : ∃ W : World, (w.alloc (.cells (x.cells t).toArray 27)).alloc (.cells zOgC.toArray 60) = W := ⟨_, rfl⟩
  rw [hW] at hB r1 r2 h2
  unfold TnA.cells at r1 hW ⊢
  have c0 : W.cell? ⟨w.heap.size, 0, none⟩ = some _ := r1.cell 0
  have c2 : W.cell? ⟨w.heap.size, 2, none⟩ = some _ := r1.cell 2
  have c4 : W.cell? ⟨w.heap.size, 4, none⟩ = some _ := r1.cell 4
  obtain ⟨b0, o0, ha0, hb0, e0⟩ := sl_at h2.l hl
  obtain ⟨b2, o2, ha2, hb2, e2⟩ := sl_at h2.rl hrl
  obtain ⟨b4, o4, ha4, hb4, e4⟩ := sl_at h2.s hs
  have hog : ogL t j = ⟨t.l.getD j default, t.rl.getD j default, ((t.s.getD j default).drop 0).take 32⟩ := rfl
  have hld := range_32 0 e4 h64 (by omega)
  rw [ha0] at c0 hW ⊢
  rw [ha2] at c2 hW ⊢
  rw [ha4] at c4 hW ⊢
  rw [hog]
  clear hog ha0 ha2 ha4 e4
  obtain ⟨sl, hsl⟩ : ∃ sl, ((t.s.getD j default).drop 0).take 32 = sl := ⟨_, rfl⟩
  have hsl32 : sl.length = 32 := by rw [← hsl, List.length_take, List.length_drop, h64]; rfl
  rw [hsl] at hld ⊢
  obtain ⟨o, ho⟩ : ∃ o : Og, (⟨t.l.getD j default, t.rl.getD j default, sl⟩ : Og) = o := ⟨_, rfl⟩
  have hlen : o.cells.length = 36 := by rw [← ho]; simp [Og.cells, hsl32]
  have hone : ∀ v ∈ o.cells, v.oneCell' = true := og_one o
  have hst := fun (W' : World) (hR : Row W' (w.heap.size + 1) 60 zOgC) => store_og o.cells (by rw [← ho]; simp [Og.cells, hsl32]) hone hR (by simp [zOgC])
  rw [ho]
  have d0 := e0 0 (by omega)
  have d2 := e2 0 (by omega)
  have d3 := e2 1 (by omega)
  have d4 := e2 2 (by omega)
  replace d0 : W.cell? ⟨b0, o0 + j, none⟩ = some (.int .i64 o.a) := by rw [← ho]; simpa [encI] using d0
  replace d2 : W.cell? ⟨b2, o2 + j * 3, none⟩ = some (.int .i64 o.r.p) := by rw [← ho]; simpa [Tr.cells] using d2
  replace d3 : W.cell? ⟨b2, o2 + j * 3 + 1, none⟩ = some (.int .i64 o.r.q) := by rw [← ho]; simpa [Tr.cells] using d3
  replace d4 : W.cell? ⟨b2, o2 + j * 3 + 2, none⟩ = some (.int .i64 o.r.r) := by rw [← ho]; simpa [Tr.cells] using d4
  have hrg : W.drew.rangeAt b4 (o4 + j * 64) (o.s.map bv) := by rw [← ho]; exact hld
  have hinf : (Tryz.prog.info? 58).map (·.size) = some (o.s.map bv).length := by rw [← ho, List.length_map, hsl32]; kernel_rfl
  have hbt : Tryz.prog.built 60 [(0, .int .i64 o.a), (1, .agg #[.int .i64 o.r.p, .int .i64 o.r.q, .int .i64 o.r.r]), (2, .agg (o.s.map bv).toArray)] = some o.cells.toArray := built_og o (by rw [← ho]; exact hsl32)
  have hst2 := hst W.drew r2
  have s1 : (0 : Int) ≤ j := by omega
  have s2 : (j : Int) < t.l.length := by omega
  have s3 : (j : Int) < t.rl.length := by omega
  have s4 : (j : Int) < t.s.length := by omega
  clear e0 e2 hb0 hb2 hb4 hld hsl32 h2 h r0 hrl hl hs h64 hsl
  go_enter Tryz.func33, Tryz.ntmps33
  go_upto_region 2 with fail
  refine (show _ = W from hW) ▸ ?_
  clear hW
  go_still_tail 17, (by kernel_rfl)
  refine still_load _ _ _ rfl rfl hrg Tryz.underlying58 rfl hinf rfl ?_
  refine still_build _ rfl rfl hbt rfl ?_
  refine wpStill_nil ?_
  change wpList _ _ _ _ _ W.drew
  have hR6 : Row (W.drew.setRow (w.heap.size + 1) o.cells.toArray) (w.heap.size + 1) 60 o.cells := setRow_heap W.drew _ _ _ _ _ r2
  have hB7 := below_setRow hB.drew (Nat.le_succ w.heap.size) o.cells.toArray
  generalize W.drew.setRow (w.heap.size + 1) o.cells.toArray = W7 at *
  generalize W.drew = W6 at *
  clear hbt hrg hinf hone c0 c2 c4 d0 d2 d3 d4 hst
  go_wp2_with fail
  have hinf : (Tryz.prog.info? 60).map (·.size) = some 36 := by kernel_rfl
  exact bodyPost_ret (v := .agg o.cells.toArray) (results_cell_row (g := w.heap.size + 1) (t := 60) (fr := (0, 0)) rfl _ _ _ _ rfl hR6 Tryz.underlying60 rfl (by rw [hinf]; simp [hlen])) rfl ⟨rfl, hB7⟩
set_option maxRecDepth 100000 in
set_option maxHeartbeats 8000000 in
theorem rhalf1_any (t : Tn) (x : TnA) (j : Nat) (w : World) (h : TnS w w.heap.size x t) (hl : j < t.r.length) (hrl : j < t.rr.length) (hs : j < t.s.length) (h64 : (t.s.getD j default).length = 64) :
    Calls Tryz.prog 33 #[.agg (x.cells t).toArray, .int .i64 j, .int .i64 1] w fun e w' => e = .returned (.agg (ogR t j).cells.toArray) ∧ Below w.heap.size w w' := by
  have hB := (below_alloc' w (.cells (x.cells t).toArray 27)).alloc (by simp) (.cells zOgC.toArray 60)
  have r0 := Row.new w 27 (x.cells t)
  have r1 := r0.alloc (.cells zOgC.toArray 60)
  have r2 := Row.new (w.alloc (.cells (x.cells t).toArray 27)) 60 zOgC
  rw [World.size_alloc] at r2
  have h2 := h.below hB
  obtain ⟨W, hW⟩ : ∃ W : World, (w.alloc (.cells (x.cells t).toArray 27)).alloc (.cells zOgC.toArray 60) = W := ⟨_, rfl⟩
  rw [hW] at hB r1 r2 h2
  unfold TnA.cells at r1 hW ⊢
  have c0 : W.cell? ⟨w.heap.size, 1, none⟩ = some _ := r1.cell 1
  have c2 : W.cell? ⟨w.heap.size, 3, none⟩ = some _ := r1.cell 3
  have c4 : W.cell? ⟨w.heap.size, 4, none⟩ = some _ := r1.cell 4
  obtain ⟨b0, o0, ha0, hb0, e0⟩ := sl_at h2.r hl
  obtain ⟨b2, o2, ha2, hb2, e2⟩ := sl_at h2.rr hrl
  obtain ⟨b4, o4, ha4, hb4, e4⟩ := sl_at h2.s hs
  have hog : ogR t j = ⟨t.r.getD j default, t.rr.getD j default, ((t.s.getD j default).drop 32).take 32⟩ := rfl
  have hld := range_32 32 e4 h64 (by omega)
  rw [ha0] at c0 hW ⊢
  rw [ha2] at c2 hW ⊢
  rw [ha4] at c4 hW ⊢
  rw [hog]
  clear hog ha0 ha2 ha4 e4
  obtain ⟨sl, hsl⟩ : ∃ sl, ((t.s.getD j default).drop 32).take 32 = sl := ⟨_, rfl⟩
  have hsl32 : sl.length = 32 := by rw [← hsl, List.length_take, List.length_drop, h64]; rfl
  rw [hsl] at hld ⊢
  obtain ⟨o, ho⟩ : ∃ o : Og, (⟨t.r.getD j default, t.rr.getD j default, sl⟩ : Og) = o := ⟨_, rfl⟩
  have hlen : o.cells.length = 36 := by rw [← ho]; simp [Og.cells, hsl32]
  have hone : ∀ v ∈ o.cells, v.oneCell' = true := og_one o
  have hst := fun (W' : World) (hR : Row W' (w.heap.size + 1) 60 zOgC) => store_og o.cells (by rw [← ho]; simp [Og.cells, hsl32]) hone hR (by simp [zOgC])
  rw [ho]
  have d0 := e0 0 (by omega)
  have d2 := e2 0 (by omega)
  have d3 := e2 1 (by omega)
  have d4 := e2 2 (by omega)
  replace d0 : W.cell? ⟨b0, o0 + j, none⟩ = some (.int .i64 o.a) := by rw [← ho]; simpa [encI] using d0
  replace d2 : W.cell? ⟨b2, o2 + j * 3, none⟩ = some (.int .i64 o.r.p) := by rw [← ho]; simpa [Tr.cells] using d2
  replace d3 : W.cell? ⟨b2, o2 + j * 3 + 1, none⟩ = some (.int .i64 o.r.q) := by rw [← ho]; simpa [Tr.cells] using d3
  replace d4 : W.cell? ⟨b2, o2 + j * 3 + 2, none⟩ = some (.int .i64 o.r.r) := by rw [← ho]; simpa [Tr.cells] using d4
  have hrg : W.drew.rangeAt b4 (o4 + j * 64 + 32) (o.s.map bv) := by rw [← ho]; exact hld
  have hinf : (Tryz.prog.info? 58).map (·.size) = some (o.s.map bv).length := by rw [← ho, List.length_map, hsl32]; kernel_rfl
  have hbt : Tryz.prog.built 60 [(0, .int .i64 o.a), (1, .agg #[.int .i64 o.r.p, .int .i64 o.r.q, .int .i64 o.r.r]), (2, .agg (o.s.map bv).toArray)] = some o.cells.toArray := built_og o (by rw [← ho]; exact hsl32)
  have hst2 := hst W.drew r2
  have s1 : (0 : Int) ≤ j := by omega
  have s2 : (j : Int) < t.r.length := by omega
  have s3 : (j : Int) < t.rr.length := by omega
  have s4 : (j : Int) < t.s.length := by omega
  clear e0 e2 hb0 hb2 hb4 hld hsl32 h2 h r0 hrl hl hs h64 hsl
  go_enter Tryz.func33, Tryz.ntmps33
  go_upto_region 3 with fail
  refine (show _ = W from hW) ▸ ?_
  clear hW
  go_still_tail 17, (by kernel_rfl)
  refine still_load _ _ _ rfl rfl hrg Tryz.underlying58 rfl hinf rfl ?_
  refine still_build _ rfl rfl hbt rfl ?_
  refine wpStill_nil ?_
  change wpList _ _ _ _ _ W.drew
  have hR6 : Row (W.drew.setRow (w.heap.size + 1) o.cells.toArray) (w.heap.size + 1) 60 o.cells := setRow_heap W.drew _ _ _ _ _ r2
  have hB7 := below_setRow hB.drew (Nat.le_succ w.heap.size) o.cells.toArray
  generalize W.drew.setRow (w.heap.size + 1) o.cells.toArray = W7 at *
  generalize W.drew = W6 at *
  clear hbt hrg hinf hone c0 c2 c4 d0 d2 d3 d4 hst
  go_wp2_with fail
  have hinf : (Tryz.prog.info? 60).map (·.size) = some 36 := by kernel_rfl
  exact bodyPost_ret (v := .agg o.cells.toArray) (results_cell_row (g := w.heap.size + 1) (t := 60) (fr := (0, 0)) rfl _ _ _ _ rfl hR6 Tryz.underlying60 rfl (by rw [hinf]; simp [hlen])) rfl ⟨rfl, hB7⟩
theorem rhalf_any (t : Tn) (x : TnA) (j : Nat) (b : Int) (w : World) (h : TnS w w.heap.size x t) (hb : b = 0 ∨ b = 1) (hl : j < t.l.length) (hr : j < t.r.length) (hrl : j < t.rl.length) (hrr : j < t.rr.length) (hs : j < t.s.length) (h64 : (t.s.getD j default).length = 64) :
    Calls Tryz.prog 33 #[.agg (x.cells t).toArray, .int .i64 j, .int .i64 b] w fun e w' => e = .returned (.agg (ogAt t j b).cells.toArray) ∧ Below w.heap.size w w' := by
  rcases hb with rfl | rfl
  · exact rhalf0_any t x j w h hl hrl hs h64
  · exact rhalf1_any t x j w h hr hrr hs h64
set_option maxRecDepth 100000 in
set_option maxHeartbeats 4000000 in
theorem rright_any (t : Tn) (x : TnA) (n : Nat) (w : World) (h : TnS w w.heap.size x t) :
    Calls Tryz.prog 30 #[.agg (x.cells t).toArray, .int .i64 n] w fun e w' => e = .returned (.bool (rightB t n)) ∧ Below w.heap.size w w' := by
  have hD : rightB t n = ((decide (t.l.length = n) && (decide (t.r.length = n) && (decide (t.rl.length = n) && (decide (t.rr.length = n) && decide (t.s.length = n))))) && (decide (n ≤ 64) && (permB t.l && permB t.r))) := rfl
  have hB := below_alloc' w (.cells (x.cells t).toArray 27)
  have r0 := Row.new w 27 (x.cells t)
  have h2 := h.below hB
  obtain ⟨W, hW⟩ : ∃ W, w.alloc (.cells (x.cells t).toArray 27) = W := ⟨_, rfl⟩
  replace r0 : Row W w.heap.size 27 (x.cells t) := hW ▸ r0
  rw [hW] at hB h2
  obtain ⟨al, cl, ar, cr, arl, crl, arr, crr, at_, ct⟩ := x
  unfold TnA.cells at r0 hW ⊢
  simp only at r0 hW h2 ⊢
  replace hW : w.alloc (.cells #[.slice al t.l.length cl, .slice ar t.r.length cr, .slice arl t.rl.length crl, .slice arr t.rr.length crr, .slice at_ t.s.length ct] 27) = W := hW
  obtain ⟨c0, c1, c2, c3, c4⟩ := st5c r0
  have hz := hB.size
  have P1 := Lib.hid (fun W' (hb : Below W.heap.size W W') => rperm_any t.l _ W' (((h2.l.mono hz).below hb).mono hb.size))
  have P2 := Lib.hid (fun W' (hb : Below W.heap.size W W') => rperm_any t.r _ W' (((h2.r.mono hz).below hb).mono hb.size))
  have hlt := r0.lt
  clear h h2
  have nn : ¬ ((n : Int) < 0) := by omega
  by_cases f0 : n ≤ 64
  rotate_left 1
  · have q := Lib.hid (show rightB t n = false by rw [hD]; simp [f0])
    have z0 : (64 : Int) < n := by omega
    clear f0
    clear hD
    go_enter Tryz.func30, Tryz.ntmps30
    go_upto_region 1 with fail
    try rw [hW]
    clear hW
    go_wp2_with fail
    go_ret
    exact ⟨ret_bool q.out.symm, hB⟩
  by_cases f1 : t.l.length = n
  rotate_left 1
  · have q := Lib.hid (show rightB t n = false by rw [hD]; simp [f1])
    have g1 : (((t.l).length : Int) != n) = true := by simp; omega
    have z0 : ¬ ((64 : Int) < n) := by omega
    clear f0 f1
    clear hD
    go_enter Tryz.func30, Tryz.ntmps30
    go_upto_region 1 with fail
    try rw [hW]
    clear hW
    go_wp2_with fail
    go_ret
    exact ⟨ret_bool q.out.symm, hB⟩
  by_cases f2 : t.r.length = n
  rotate_left 1
  · have q := Lib.hid (show rightB t n = false by rw [hD]; simp [f2])
    have g1 : (((t.l).length : Int) != n) = false := by simp [f1]
    have g2 : (((t.r).length : Int) != n) = true := by simp; omega
    have z0 : ¬ ((64 : Int) < n) := by omega
    clear f0 f1 f2
    clear hD
    go_enter Tryz.func30, Tryz.ntmps30
    go_upto_region 1 with fail
    try rw [hW]
    clear hW
    go_wp2_with fail
    go_ret
    exact ⟨ret_bool q.out.symm, hB⟩
  by_cases f3 : t.rl.length = n
  rotate_left 1
  · have q := Lib.hid (show rightB t n = false by rw [hD]; simp [f3])
    have g1 : (((t.l).length : Int) != n) = false := by simp [f1]
    have g2 : (((t.r).length : Int) != n) = false := by simp [f2]
    have g3 : (((t.rl).length : Int) != n) = true := by simp; omega
    have z0 : ¬ ((64 : Int) < n) := by omega
    clear f0 f1 f2 f3
    clear hD
    go_enter Tryz.func30, Tryz.ntmps30
    go_upto_region 1 with fail
    try rw [hW]
    clear hW
    go_wp2_with fail
    go_ret
    exact ⟨ret_bool q.out.symm, hB⟩
  by_cases f4 : t.rr.length = n
  rotate_left 1
  · have q := Lib.hid (show rightB t n = false by rw [hD]; simp [f4])
    have g1 : (((t.l).length : Int) != n) = false := by simp [f1]
    have g2 : (((t.r).length : Int) != n) = false := by simp [f2]
    have g3 : (((t.rl).length : Int) != n) = false := by simp [f3]
    have g4 : (((t.rr).length : Int) != n) = true := by simp; omega
    have z0 : ¬ ((64 : Int) < n) := by omega
    clear f0 f1 f2 f3 f4
    clear hD
    go_enter Tryz.func30, Tryz.ntmps30
    go_upto_region 1 with fail
    try rw [hW]
    clear hW
    go_wp2_with fail
    go_ret
    exact ⟨ret_bool q.out.symm, hB⟩
  by_cases f5 : t.s.length = n
  rotate_left 1
  · have q := Lib.hid (show rightB t n = false by rw [hD]; simp [f5])
    have g1 : (((t.l).length : Int) != n) = false := by simp [f1]
    have g2 : (((t.r).length : Int) != n) = false := by simp [f2]
    have g3 : (((t.rl).length : Int) != n) = false := by simp [f3]
    have g4 : (((t.rr).length : Int) != n) = false := by simp [f4]
    have g5 : (((t.s).length : Int) != n) = true := by simp; omega
    have z0 : ¬ ((64 : Int) < n) := by omega
    clear f0 f1 f2 f3 f4 f5
    clear hD
    go_enter Tryz.func30, Tryz.ntmps30
    go_upto_region 1 with fail
    try rw [hW]
    clear hW
    go_wp2_with fail
    go_ret
    exact ⟨ret_bool q.out.symm, hB⟩
  have g1 : (((t.l).length : Int) != n) = false := by simp [f1]
  have g2 : (((t.r).length : Int) != n) = false := by simp [f2]
  have g3 : (((t.rl).length : Int) != n) = false := by simp [f3]
  have g4 : (((t.rr).length : Int) != n) = false := by simp [f4]
  have g5 : (((t.s).length : Int) != n) = false := by simp [f5]
  have z0 : ¬ ((64 : Int) < n) := by omega
  have hD2 : rightB t n = (permB t.l && permB t.r) := by rw [hD]; simp [f0, f1, f2, f3, f4, f5]
  clear hD f0 f1 f2 f3 f4 f5
  cases p1 : permB t.l with
  | false =>
    have q := Lib.hid (show rightB t n = false by rw [hD2, p1]; rfl)
    rw [p1] at P1
    clear hD2 p1
    go_enter Tryz.func30, Tryz.ntmps30
    go_upto_region 1 with fail
    try rw [hW]
    clear hW
    go_wp2_with (go_at_call 58; (with_reducible refine (P1.out _ (Below.refl _ _)).mono ?_); rintro e w1 ⟨rfl, hb⟩)
    go_ret
    exact ⟨ret_bool q.out.symm, hB.trans (hb.mono hz)⟩
  | true =>
    rw [p1] at P1
    have q := Lib.hid (show rightB t n = permB t.r by rw [hD2, p1]; rfl)
    clear hD2 p1
    go_enter Tryz.func30, Tryz.ntmps30
    go_upto_region 1 with fail
    try rw [hW]
    clear hW
    go_wp2_with (first
      | (go_at_call 58; (with_reducible refine (P1.out _ (Below.refl _ _)).mono ?_); rintro e w1 ⟨rfl, hb⟩; have m1 : w1.cell? ⟨w.heap.size, 1, none⟩ = _ := (hb.cell (p := ⟨w.heap.size, 1, none⟩) hlt).trans c1)
      | (go_at_call 58; (with_reducible refine (P2.out _ hb).mono ?_); rintro e w2 ⟨rfl, hb2⟩; replace hb := hb.trans (hb2.mono hb.size)))
    go_ret
    exact ⟨ret_bool q.out.symm, hB.trans (hb.mono hz)⟩
end Go.Proofs.YthboebhghaabnaaGreatDoor
