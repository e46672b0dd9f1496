import Derived.Test.YtaheibbbdglcmaaDoorDg3
import Derived.Test.YtaheibbbdglcmaaDoorShaP
import Derived.Deep.Cut
import Derived.Laws.CopyOwn
import Derived.Deep.Cut
import Derived.Laws.CopyOwn
namespace Go.Proofs.YtaheibbbdglcmaaDoor
open Go.RowKit Fk Sha
/-! The hash of bytes. -/
/-- a slice value with its capacity -/
def capB (v : Value) : Prop := ∃ (A : Option Addr) (n c : Nat), v = .slice A n c ∧ n ≤ c ∧ c ≤ 9223372036854775807 ∧ (A = none → c = 0)
theorem Tab.eight {w : World} (h : Tab w) : w.cell? ⟨0, 0, none⟩ = some (.int .u32 1779033703) ∧ w.cell? ⟨0, 1, none⟩ = some (.int .u32 3144134277) ∧ w.cell? ⟨0, 2, none⟩ = some (.int .u32 1013904242) ∧ w.cell? ⟨0, 3, none⟩ = some (.int .u32 2773480762) ∧ w.cell? ⟨0, 4, none⟩ = some (.int .u32 1359893119) ∧ w.cell? ⟨0, 5, none⟩ = some (.int .u32 2600822924) ∧ w.cell? ⟨0, 6, none⟩ = some (.int .u32 528734635) ∧ w.cell? ⟨0, 7, none⟩ = some (.int .u32 1541459225) :=
  ⟨h.2 0 (by omega), h.2 1 (by omega), h.2 2 (by omega), h.2 3 (by omega), h.2 4 (by omega), h.2 5 (by omega), h.2 6 (by omega), h.2 7 (by omega)⟩
theorem row_at' {w : World} {n : Nat} (h : w.heap.size = n) (t : TypeId) (vs : List Value) : Row (w.alloc (.cells vs.toArray t)) n t vs := h ▸ Row.new w t vs
/-- what is left of the bytes behind k blocks -/
def RestS (w : World) (l : List B) (k n m : Nat) (A : Option Addr) : Prop := n + 64 * k = l.length ∧ n ≤ m ∧ m ≤ 9223372036854775807 ∧
  (0 < n → ∃ b off, A = some ⟨b, off, none⟩ ∧ b < w.heap.size ∧ ∀ i, i < n → w.cell? ⟨b, off + i, none⟩ = some (bv (l.getD (64 * k + i) default)))
theorem RestS.start {w : World} {l : List B} {A : Option Addr} {c : Nat} (h : SlB w w.heap.size (.slice A l.length c) l) (h1 : l.length ≤ c) (h2 : c ≤ 9223372036854775807) : RestS w l 0 l.length c A := by
  refine ⟨by omega, h1, h2, fun hp => ?_⟩
  obtain ⟨_, A', c', hv, hE⟩ := h
  obtain ⟨b, off, rfl, hb, hE⟩ := hE hp
  cases hv
  refine ⟨b, off, rfl, hb, fun i hi => ?_⟩
  have := hE i hi 0 (by omega)
  rw [Nat.mul_one, Nat.add_zero] at this
  rw [show 64 * 0 + i = i by omega]
  exact this
/-- the hash's own blocks: the result, the state -/
structure Sm (w W : World) (s : St) : Prop where
  below : Below w.heap.size w W
  size : w.heap.size + 2 ≤ W.heap.size
  d : Row W w.heap.size 30 (List.replicate 32 (.int .u8 0))
  s : Row W (w.heap.size + 1) 95 (s.list.map u)
theorem Sm.step {w W W' : World} {s s' : St} (h : Sm w W s) (hg : W.grownBy W' (some (w.heap.size + 1))) (hr : Row W' (w.heap.size + 1) 95 (s'.list.map u)) : Sm w W' s' :=
  ⟨h.below.grown hg (by have := h.size; omega) (fun r e => by cases e; omega), Nat.le_trans h.size hg.size, Row.keep h.d (hg.block _ (by have := h.size; omega) (by simp)), hr⟩
theorem tail_cells {W : World} {e : Nat} {t : TypeId} {T : List B} {r : List Value} (h : Row W e t (T.map bv ++ r)) {o : Nat} (ho : o + 64 ≤ T.length) {i : Nat} (hi : i < 64) :
    W.cell? ⟨e, o + i, none⟩ = some (bv (((T.drop o).take 64).getD i default)) := by
  rw [Row.cell h, List.getElem?_append_left (by rw [List.length_map]; omega), List.getElem?_map, List.getD_eq_getElem?_getD, List.getElem?_take_of_lt hi, List.getElem?_drop, List.getElem?_eq_getElem (by omega)]
  rfl
theorem idx8 (s : St) {k : Nat} (h : k < 8) (w : World) : (Instr.index 95 (.agg #[.int .u32 (un s.a), .int .u32 (un s.b), .int .u32 (un s.c), .int .u32 (un s.d), .int .u32 (un s.e), .int .u32 (un s.f), .int .u32 (un s.g), .int .u32 (un s.h)]) (.int .i64 k)).run Tryd.prog w = .ok (.int .u32 (un (s.list.getD k 0))) w := by
  rcases (show k = 0 ∨ k = 1 ∨ k = 2 ∨ k = 3 ∨ k = 4 ∨ k = 5 ∨ k = 6 ∨ k = 7 by omega) with rfl | rfl | rfl | rfl | rfl | rfl | rfl | rfl <;> kernel_rfl
theorem sl32 (g : Nat) {k : Nat} (h : k < 8) (w : World) : (Instr.sliceAt 30 (.pointer (some ⟨g, 0, none⟩)) (some (.int .i64 (4 * (k : Int)))) (some (.int .i64 (4 * (k : Int) + 4))) none).run Tryd.prog w = .ok (.slice (some ⟨g, 4 * k, none⟩) 4 (32 - 4 * k)) w := by
  rcases (show k = 0 ∨ k = 1 ∨ k = 2 ∨ k = 3 ∨ k = 4 ∨ k = 5 ∨ k = 6 ∨ k = 7 by omega) with rfl | rfl | rfl | rfl | rfl | rfl | rfl | rfl <;> kernel_rfl
theorem outTo_length (s : St) {k : Nat} (h : k ≤ 8) : (outTo s k).length = 32 := by
  rcases (show k = 0 ∨ k = 1 ∨ k = 2 ∨ k = 3 ∨ k = 4 ∨ k = 5 ∨ k = 6 ∨ k = 7 ∨ k = 8 by omega) with rfl | rfl | rfl | rfl | rfl | rfl | rfl | rfl | rfl <;> rfl
theorem copy_rest {W : World} {e : Nat} {t ty : TypeId} {cur : List Value} (hE : Row W e t cur) {A : Option Addr} {n m dl dc : Nat} (hn : n ≤ dl) (hc : n ≤ cur.length) {cs : List Value} (hcs : cs.length = n)
    (hA : 0 < n → ∃ b off, A = some ⟨b, off, none⟩ ∧ ∀ i x, cs[i]? = some x → W.cell? ⟨b, off + i, none⟩ = some x) (h1 : ∀ v ∈ cs, v.oneCell' = true) :
    ∃ W2, (Builtin.copy_ #[22, 22] ty #[.slice (some ⟨e, 0, none⟩) dl dc, .slice A n m]).run Tryd.prog W = .ok (goInt n) W2 ∧ Row W2 e t (cs ++ cur.drop n) ∧ Below e W W2 := by
  by_cases h0 : n = 0
  · subst h0
    obtain rfl : cs = [] := List.eq_nil_of_length_eq_zero hcs
    exact ⟨W, run_copy_none (P := Tryd.prog) W _ _ ty 5 _ _ _ _ _ _ Tryd.underlying22 (by kernel_rfl) (by simp), by simpa using hE, Below.refl _ _⟩
  · obtain ⟨b, off, rfl, hA'⟩ := hA (by omega)
    have hr := run_copy_row (P := Tryd.prog) W 22 22 ty 5 e 0 dl dc ⟨b, off, none⟩ n m cur.toArray t cs Tryd.underlying22 (by kernel_rfl) hE (by rw [hcs]; exact (Nat.min_eq_left hn).symm)
      (fun j v hj => by rw [addr_add0]; exact hA' j v hj) (by simpa [hcs] using hc) h1
    rw [hcs] at hr
    refine ⟨_, hr, ?_, below_setRow (Below.refl _ _) (Nat.le_refl _) _⟩
    have := setRow_heap W e cur.toArray (List.take 0 cur.toArray.toList ++ cs ++ List.drop (0 + n) cur.toArray.toList).toArray t (0, 0) hE
    unfold Row
    simpa using this
set_option maxRecDepth 100000 in
set_option maxHeartbeats 4000000 in
theorem sum_any (l : List B) (v : Value) (w : World) (h : SlB w w.heap.size v l) (hl : l.length ≤ 1099511627776) (hcap : capB v) (hT : Tab w) (hz : 1 < w.heap.size ∧ 0 < w.heap.size) :
    Calls Tryd.prog 39 #[v] w fun e w' => e = .returned (.agg ((sum l).map bv).toArray) ∧ Below w.heap.size w w' := by
  obtain ⟨A, n, c, rfl, hnc, hc, _⟩ := hcap
  have hn : n = l.length := by obtain ⟨_, _, _, hv, _⟩ := h; injection hv
  subst hn
  have HS := Lib.hid h
  have HT := Lib.hid hT
  obtain ⟨g0, g1, g2, g3, g4, g5, g6, g7⟩ := hT.eight
  obtain ⟨hz1, hz2⟩ := hz
  clear h hT
  go_enter Tryd.func39, Tryd.ntmps39
  go_wp2_with fail
  obtain ⟨W0, hW0⟩ : ∃ W0 : World, (w.alloc (.cells (List.replicate 32 (Value.int IntKind.u8 0)).toArray 30)).alloc (.cells (startS.list.map u).toArray 95) = W0 := ⟨_, rfl⟩
  have hSm : Sm w W0 startS := by
    rw [← hW0]
    exact ⟨((Below.refl _ w).alloc (Nat.le_refl _) _).alloc (by simp) _, by simp, Row.alloc (Row.new w _ _) _, row_at' (by simp) _ _⟩
  have hR0 : RestS w l 0 l.length c A := RestS.start HS.out hnc hc
  refine (show _ = W0 from hW0) ▸ ?_
  clear hW0 g0 g1 g2 g3 g4 g5 g6 g7 hnc hc
  go_loopg [5] (l.length / 64) (fun gk x wr => ∃ (k n m : Nat) (A' : Option Addr), x = .slice A' n m ∧ k + gk = l.length / 64 ∧ RestS w l k n m A' ∧ Sm w wr (run startS l k))
  case atStart => exact ⟨0, _, _, _, rfl, by omega, hR0, hSm⟩
  case round =>
    clear hR0 hSm
    obtain ⟨k, n, m, A', rfl, hk, ⟨hn1, hnm, hm, hrest⟩, hSm⟩ := hrel
    by_cases hlt : 64 ≤ n
    · obtain ⟨b, off, rfl, hb, hcell⟩ := hrest (by omega)
      have hz := hSm.size
      have hab := absorb_any (run startS l k) ((l.drop (64 * k)).take 64) (w.heap.size + 1) b off m wr hSm.s (by simp; omega) (by omega) hm (fun i hi => by
        rw [hSm.below.cell (p := ⟨b, off + i, none⟩) hb, hcell i (by omega), List.getD_eq_getElem?_getD, List.getD_eq_getElem?_getD, List.getElem?_take_of_lt hi, List.getElem?_drop]) (by omega)
        (HT.out.keep ⟨hz1, hz2⟩ hSm.below.block) (by omega)
      have hnx : RestS w l (k + 1) (n - 64) (m - 64) (if m = 64 then some ⟨b, off, none⟩ else some ⟨b, off + 64, none⟩) := by
        refine ⟨by omega, by omega, by omega, fun hp => ⟨b, off + 64, by rw [if_neg (by omega)], hb, fun i hi => ?_⟩⟩
        rw [Nat.add_assoc, hcell _ (by omega)]
        congr 3; omega
      have hst : ∀ W', wr.grownBy W' (some (w.heap.size + 1)) → Row W' (w.heap.size + 1) 95 ((absorb (run startS l k) ((l.drop (64 * k)).take 64)).list.map u) → Sm w W' (run startS l (k + 1)) := fun W' h1 h2 => hSm.step h1 h2
      have HAB := Lib.hid hab
      have HNX := Lib.hid hnx
      have HST := Lib.hid hst
      clear hab hnx hst hcell hrest hSm
      by_cases hm64 : m = 64
      · subst hm64
        obtain rfl : n = 64 := by omega
        go_wp2_with (go_at_call 68; (with_reducible refine HAB.out.mono ?_); rintro e w1 ⟨rfl, hr, hg⟩)
        go_roundg (gk - 1)
        case measure => omega
        case rel => exact ⟨k + 1, 0, 0, some ⟨b, off, none⟩, rfl, by omega, by have h2 := HNX.out; rw [if_pos trivial] at h2; exact h2, HST.out _ hg hr⟩
      · go_wp2_with (go_at_call 68; (with_reducible refine HAB.out.mono ?_); rintro e w1 ⟨rfl, hr, hg⟩)
        go_roundg (gk - 1)
        case measure => omega
        case rel => exact ⟨k + 1, n - 64, m - 64, _, by rw [if_neg hm64], by omega, HNX.out, HST.out _ hg hr⟩
    · have hmk : ∀ w, (Instr.makeSlice 22 (.int .i64 64) (.int .i64 128)).run Tryd.prog w = .ok (.slice (some ⟨w.heap.size, 0, none⟩) 64 128) (w.alloc (.cells (List.replicate 128 (Value.int .u8 0)).toArray 5)) := fun _ => by kernel_rfl
      have hn : n < 64 := by omega
      have hz := hSm.size
      have HRS := Lib.hid hrest
      have HSM := Lib.hid hSm
      have HMK := Lib.hid hmk
      clear hrest hSm
      go_upto_region 8 with (fail)
      clear hmk
      obtain ⟨W1, hW1⟩ : ∃ W1 : World, wr.alloc (.cells (List.replicate 128 (Value.int .u8 0)).toArray 5) = W1 := ⟨_, rfl⟩
      refine (show _ = W1 from hW1) ▸ ?_
      obtain ⟨e, he⟩ : ∃ e, wr.heap.size = e := ⟨_, rfl⟩
      have hE : Row W1 e 5 (List.replicate 128 (bv 0#8)) := by rw [← hW1, ← he]; exact Row.new wr _ _
      have hB1 : Below w.heap.size w W1 := by rw [← hW1]; exact HSM.out.below.alloc (by omega) _
      have hD1 : Row W1 w.heap.size 30 (List.replicate 32 (.int .u8 0)) := by rw [← hW1]; exact Row.alloc HSM.out.d _
      have hS1 : Row W1 (w.heap.size + 1) 95 ((run startS l k).list.map u) := by rw [← hW1]; exact Row.alloc HSM.out.s _
      have he2 : w.heap.size + 2 ≤ e := by omega
      rw [he]
      clear hW1 HSM HMK
      have hZ := Row.lt hE
      have hn1' := Lib.hid hn1
      clear hn1 he hz
      obtain ⟨W2, hcp, hE2, hb2⟩ := copy_rest (ty := 3) (m := m) (dc := 128) hE (A := A') (n := n) (dl := 64) (by omega) (by simp; omega) (cs := (l.drop (64 * k)).map bv) (by simp; have := hn1'.out; omega)
        (fun hp => by
          obtain ⟨b, off, rfl, hb, hc⟩ := HRS.out hp
          refine ⟨b, off, rfl, fun i x hx => ?_⟩
          rw [List.getElem?_map, List.getElem?_drop] at hx
          obtain ⟨y, hy, rfl⟩ := Option.map_eq_some_iff.1 hx
          have hi : i < n := by have := (List.getElem?_eq_some_iff.1 hy).1; have := hn1'.out; omega
          rw [hB1.cell (p := ⟨b, off + i, none⟩) hb, hc i hi, List.getD_eq_getElem?_getD, hy]; rfl)
        (fun v hv => by obtain ⟨y, _, rfl⟩ := List.mem_map.1 hv; rfl)
      rw [List.drop_replicate] at hE2
      have hlenE : ((l.drop (64 * k)).map bv ++ List.replicate (128 - n) (bv 0#8)).length = 128 := by simp; have := hn1'.out; omega
      have fE := Row.frozen hE2 n
      obtain ⟨v0, hv0⟩ : ∃ v, W2.cell? ⟨e, n, none⟩ = some v := ⟨_, (Row.cell hE2 n).trans (List.getElem?_eq_getElem (by omega))⟩
      have hE3 := Row.store hE2 n (bv 0x80#8)
      have hS3 : Row (W2.setCell ⟨e, n, none⟩ (bv 0x80#8)) (w.heap.size + 1) 95 ((run startS l k).list.map u) := Row.other (Row.keep hS1 (hb2.block _ (by omega))) (by simp only []; omega) _
      have hD3 : Row (W2.setCell ⟨e, n, none⟩ (bv 0x80#8)) w.heap.size 30 (List.replicate 32 (.int .u8 0)) := Row.other (Row.keep hD1 (hb2.block _ (by omega))) (by simp only []; omega) _
      have hB3 : Below w.heap.size w (W2.setCell ⟨e, n, none⟩ (bv 0x80#8)) := (hB1.trans (hb2.mono (by omega))).setCell (by simp only []; omega) _
      have e128 : bv 0x80#8 = .int .u8 128 := rfl
      rw [e128] at hS3 hD3 hB3
      have hx : 8 * l.length % 2 ^ 64 = l.length * 8 := by rw [Nat.mod_eq_of_lt (by omega)]; omega
      by_cases h55 : n ≤ 55
      · have hend := endRow (k := k) hn1'.out hn 64 (by rw [if_pos h55])
        rw [hx] at hend
        have hput := put_any 8 56 72 (l.length * 8) e 5 _ _ hE3 (by simp; have := hn1'.out; omega) (by omega) (by omega)
        rw [hend, Int.natCast_mul, show ((8 : Nat) : Int) = 8 from rfl, e128] at hput
        have HPUT := Lib.hid hput
        have HS3 := Lib.hid hS3
        have HD3 := Lib.hid hD3
        have HB3 := Lib.hid hB3
        clear hput hend hE3 hS3 hD3 hB3 hE2 hE hS1 hD1 hb2 hlenE hx hB1 e128
        have hl8 : (0 : Int) ≤ (l.length : Int) * 8 := by omega
        go_wp2_with (go_at_call 69; (with_reducible refine HPUT.out.mono ?_); rintro e' W4 ⟨rfl, hE4, hg4⟩)
        have hS4 : Row W4 (w.heap.size + 1) 95 ((run startS l k).list.map u) := Row.keep HS3.out (hg4.block _ (Row.lt HS3.out) (fun h => by injection h; omega))
        have hD4 : Row W4 w.heap.size 30 (List.replicate 32 (.int .u8 0)) := Row.keep HD3.out (hg4.block _ (Row.lt HD3.out) (fun h => by injection h; omega))
        have hB4 : Below w.heap.size w W4 := HB3.out.grown hg4 HB3.out.size (fun r e => by cases e; omega)
        have hTT : Tab W4 := HT.out.keep ⟨hz1, hz2⟩ hB4.block
        clear HPUT HS3 HD3 HB3 hg4 hl8 hv0 fE hcp HRS
        have htl := tail_length hn1'.out hn
        rw [if_pos h55] at htl
        have hab := absorb_any (run startS l k) ((tailP l k).take 64) (w.heap.size + 1) e 0 128 W4 hS4 (by simp; omega) (by omega) (by omega) (fun i hi => by
          have := tail_cells hE4 (o := 0) (by omega) hi; rwa [List.drop_zero] at this) (by have := Row.lt hE4; omega) hTT (by omega)
        have hsum : sum l = out (absorb (run startS l k) ((tailP l k).take 64)) := sum_small hn1'.out h55
        generalize absorb (run startS l k) ((tailP l k).take 64) = σ at *
        have HAB := Lib.hid hab
        have HSUM := Lib.hid hsum
        clear hab hsum hS4 hTT hE4
        refine wp_loop_rounds 2 ?_
        rw [rounds_succ]
        go_wp2_with (go_at_call 68; (with_reducible refine HAB.out.mono ?_); rintro e' W5 ⟨rfl, hS5, hg5⟩)
        have hD5 : Row W5 w.heap.size 30 (List.replicate 32 (.int .u8 0)) := Row.keep hD4 (hg5.block _ (Row.lt hD4) (fun h => by injection h; omega))
        have hB5 : Below w.heap.size w W5 := hB4.grown hg5 hB4.size (fun r e => by cases e; omega)
        clear hD4 hB4 hg5 HAB
        rw [rounds_succ]
        go_upto_region 16 with (fail)
        obtain ⟨c0, c1, c2, c3, c4, c5, c6, c7⟩ := st8 hS5
        clear hS5
        obtain ⟨wp, rfl⟩ : ∃ wp : World, wp = wr := ⟨_, rfl⟩
        go_wp2_with fail
        have hi8 := fun (k : Nat) (h : k < 8) (w : World) => idx8 σ h w
        have HI8 := Lib.hid hi8
        clear hi8 c0 c1 c2 c3 c4 c5 c6 c7
        go_loopg [54] 8 (fun gk i wx => ∃ k : Nat, i = .int .i64 k ∧ k + gk = 8 ∧ Row wx w.heap.size 30 (outTo σ k) ∧ Below w.heap.size w wx)
        case atStart => exact ⟨0, rfl, rfl, hD5, hB5⟩
        case round =>
          clear hD5 hB5
          obtain ⟨j, rfl, hj, hD, hB⟩ := hrel
          by_cases hlt : j < 8
          · have hix := fun w => HI8.out j hlt w
            have hsl := fun w' => sl32 w.heap.size hlt w'
            have hput := put_any 4 (4 * j) (32 - 4 * j) (σ.list.getD j 0).toNat w.heap.size 30 _ wr hD (by rw [outTo_length σ (by omega)]; omega) (by have := (σ.list.getD j 0).isLt; omega) (by omega)
            rw [outTo_put σ hlt] at hput
            have bX := un_bd (σ.list.getD j 0)
            rw [show (((σ.list.getD j 0).toNat : Nat) : Int) = un (σ.list.getD j 0) from rfl] at hput
            generalize un (σ.list.getD j 0) = X at *
            have HPUT := Lib.hid hput
            have HB := Lib.hid hB
            clear hput hD hB
            have s9 : (0 : Int) ≤ j := by omega
            have s10 : (j : Int) < 8 := by omega
            go_wp2_with (go_at_call 69; (with_reducible refine HPUT.out.mono ?_); rintro e' W6 ⟨rfl, hD6, hg6⟩)
            go_roundg (gk - 1)
            case measure => omega
            case rel => exact ⟨j + 1, by go_num, by omega, hD6, HB.out.grown hg6 HB.out.size (fun r e => by cases e; omega)⟩
          · obtain rfl : j = 8 := by omega
            rw [outTo_eight] at hD
            go_upto_region 21 with (fail)
            have hlen := out_length σ
            have hcs : ((out σ).map bv).toArray.size = 32 := by simp [hlen]
            have hinf : (Tryd.prog.info? 30).map (·.size) = some 32 := by kernel_rfl
            refine wp_region_lit ?_
            refine wpList_load_row rfl 30 (.tmp 2) rfl w.heap.size rfl 30 ((out σ).map bv).toArray (0, 0) _ hD Tryd.underlying30 rfl (by rw [hcs]; exact hinf) ?_
            refine wpList_store_row rfl 30 (.tmp 2) (.tmp 68) rfl w.heap.size ((out σ).map bv).toArray rfl rfl 30 ((out σ).map bv).toArray hD (by rw [hcs]; exact hinf) rfl (by simp [Value.oneCell', bv]) ?_
            rw [setRow_self wr _ _ _ _ hD]
            go_wp2_with fail
            exact bodyPost_ret (v := .agg ((out σ).map bv).toArray) (results_cell_row (g := w.heap.size) (t := 30) (fr := (0, 0)) rfl _ wr _ _ rfl hD Tryd.underlying30 rfl (by rw [hcs]; exact hinf)) rfl ⟨by rw [HSUM.out], hB⟩
      · have hend := endRow (k := k) hn1'.out hn 128 (by rw [if_neg h55])
        rw [hx] at hend
        have hput := put_any 8 120 8 (l.length * 8) e 5 _ _ hE3 (by simp; have := hn1'.out; omega) (by omega) (by omega)
        rw [hend, Int.natCast_mul, show ((8 : Nat) : Int) = 8 from rfl, e128] at hput
        have HPUT := Lib.hid hput
        have HS3 := Lib.hid hS3
        have HD3 := Lib.hid hD3
        have HB3 := Lib.hid hB3
        clear hput hend hE3 hS3 hD3 hB3 hE2 hE hS1 hD1 hb2 hlenE hx hB1 e128
        have hl8 : (0 : Int) ≤ (l.length : Int) * 8 := by omega
        go_wp2_with (go_at_call 69; (with_reducible refine HPUT.out.mono ?_); rintro e' W4 ⟨rfl, hE4, hg4⟩)
        have hS4 : Row W4 (w.heap.size + 1) 95 ((run startS l k).list.map u) := Row.keep HS3.out (hg4.block _ (Row.lt HS3.out) (fun h => by injection h; omega))
        have hD4 : Row W4 w.heap.size 30 (List.replicate 32 (.int .u8 0)) := Row.keep HD3.out (hg4.block _ (Row.lt HD3.out) (fun h => by injection h; omega))
        have hB4 : Below w.heap.size w W4 := HB3.out.grown hg4 HB3.out.size (fun r e => by cases e; omega)
        have hTT : Tab W4 := HT.out.keep ⟨hz1, hz2⟩ hB4.block
        clear HPUT HS3 HD3 HB3 hg4 hl8 hv0 fE hcp HRS
        have htl := tail_length hn1'.out hn
        rw [if_neg h55] at htl
        have hab := absorb_any (run startS l k) ((tailP l k).take 64) (w.heap.size + 1) e 0 128 W4 hS4 (by simp; omega) (by omega) (by omega) (fun i hi => by
          have := tail_cells hE4 (o := 0) (by omega) hi; rwa [List.drop_zero] at this) (by have := Row.lt hE4; omega) hTT (by omega)
        have hsum : sum l = out (absorb (absorb (run startS l k) ((tailP l k).take 64)) (((tailP l k).drop 64).take 64)) := sum_big hn1'.out (by omega) hn
        generalize absorb (run startS l k) ((tailP l k).take 64) = τ at *
        have HAB := Lib.hid hab
        have HTT := Lib.hid hTT
        have HE4 := Lib.hid hE4
        clear hab hS4 hTT hE4
        refine wp_loop_rounds 3 ?_
        rw [rounds_succ]
        go_wp2_with (go_at_call 68; (with_reducible refine HAB.out.mono ?_); rintro e' W7 ⟨rfl, hS7, hg7⟩)
        have hD7 : Row W7 w.heap.size 30 (List.replicate 32 (.int .u8 0)) := Row.keep hD4 (hg7.block _ (Row.lt hD4) (fun h => by injection h; omega))
        have hE7 := Row.keep HE4.out (hg7.block _ (Row.lt HE4.out) (fun h => by injection h; omega))
        have hB7 : Below w.heap.size w W7 := hB4.grown hg7 hB4.size (fun r e => by cases e; omega)
        have hTT : Tab W7 := HT.out.keep ⟨hz1, hz2⟩ hB7.block
        have hab2 := absorb_any τ (((tailP l k).drop 64).take 64) (w.heap.size + 1) e 64 64 W7 hS7 (by simp; omega) (by omega) (by omega) (fun i hi => tail_cells hE7 (o := 64) (by omega) hi) (by have := Row.lt hE7; omega) hTT (by omega)
        generalize absorb τ (((tailP l k).drop 64).take 64) = σ at *
        have HAB2 := Lib.hid hab2
        have HSUM := Lib.hid hsum
        clear hab2 hsum hS7 hTT hE7 hD4 hB4 hg7 HAB HTT HE4
        rw [rounds_succ]
        go_wp2_with (go_at_call 68; (with_reducible refine HAB2.out.mono ?_); rintro e' W5 ⟨rfl, hS5, hg5⟩)
        have hD5 : Row W5 w.heap.size 30 (List.replicate 32 (.int .u8 0)) := Row.keep hD7 (hg5.block _ (Row.lt hD7) (fun h => by injection h; omega))
        have hB5 : Below w.heap.size w W5 := hB7.grown hg5 hB7.size (fun r e => by cases e; omega)
        clear hD7 hB7 hg5 HAB2
        rw [rounds_succ]
        go_upto_region 16 with (fail)
        obtain ⟨c0, c1, c2, c3, c4, c5, c6, c7⟩ := st8 hS5
        clear hS5
        obtain ⟨wp, rfl⟩ : ∃ wp : World, wp = wr := ⟨_, rfl⟩
        go_wp2_with fail
        have hi8 := fun (k : Nat) (h : k < 8) (w : World) => idx8 σ h w
        have HI8 := Lib.hid hi8
        clear hi8 c0 c1 c2 c3 c4 c5 c6 c7
        go_loopg [54] 8 (fun gk i wx => ∃ k : Nat, i = .int .i64 k ∧ k + gk = 8 ∧ Row wx w.heap.size 30 (outTo σ k) ∧ Below w.heap.size w wx)
        case atStart => exact ⟨0, rfl, rfl, hD5, hB5⟩
        case round =>
          clear hD5 hB5
          obtain ⟨j, rfl, hj, hD, hB⟩ := hrel
          by_cases hlt : j < 8
          · have hix := fun w => HI8.out j hlt w
            have hsl := fun w' => sl32 w.heap.size hlt w'
            have hput := put_any 4 (4 * j) (32 - 4 * j) (σ.list.getD j 0).toNat w.heap.size 30 _ wr hD (by rw [outTo_length σ (by omega)]; omega) (by have := (σ.list.getD j 0).isLt; omega) (by omega)
            rw [outTo_put σ hlt] at hput
            have bX := un_bd (σ.list.getD j 0)
            rw [show (((σ.list.getD j 0).toNat : Nat) : Int) = un (σ.list.getD j 0) from rfl] at hput
            generalize un (σ.list.getD j 0) = X at *
            have HPUT := Lib.hid hput
            have HB := Lib.hid hB
            clear hput hD hB
            have s9 : (0 : Int) ≤ j := by omega
            have s10 : (j : Int) < 8 := by omega
            go_wp2_with (go_at_call 69; (with_reducible refine HPUT.out.mono ?_); rintro e' W6 ⟨rfl, hD6, hg6⟩)
            go_roundg (gk - 1)
            case measure => omega
            case rel => exact ⟨j + 1, by go_num, by omega, hD6, HB.out.grown hg6 HB.out.size (fun r e => by cases e; omega)⟩
          · obtain rfl : j = 8 := by omega
            rw [outTo_eight] at hD
            go_upto_region 21 with (fail)
            have hlen := out_length σ
            have hcs : ((out σ).map bv).toArray.size = 32 := by simp [hlen]
            have hinf : (Tryd.prog.info? 30).map (·.size) = some 32 := by kernel_rfl
            refine wp_region_lit ?_
            refine wpList_load_row rfl 30 (.tmp 2) rfl w.heap.size rfl 30 ((out σ).map bv).toArray (0, 0) _ hD Tryd.underlying30 rfl (by rw [hcs]; exact hinf) ?_
            refine wpList_store_row rfl 30 (.tmp 2) (.tmp 68) rfl w.heap.size ((out σ).map bv).toArray rfl rfl 30 ((out σ).map bv).toArray hD (by rw [hcs]; exact hinf) rfl (by simp [Value.oneCell', bv]) ?_
            rw [setRow_self wr _ _ _ _ hD]
            go_wp2_with fail
            exact bodyPost_ret (v := .agg ((out σ).map bv).toArray) (results_cell_row (g := w.heap.size) (t := 30) (fr := (0, 0)) rfl _ wr _ _ rfl hD Tryd.underlying30 rfl (by rw [hcs]; exact hinf)) rfl ⟨by rw [HSUM.out], hB⟩
end Go.Proofs.YtaheibbbdglcmaaDoor
