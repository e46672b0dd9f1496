import Derived.Test.YtaheibbbdglcmaaDoorDg2
import Derived.StillTail
import Derived.StillTailTactics
import Derived.Deep.QuietTactic
import Derived.BigQuiet
import Derived.Laws.CopyRow
import Derived.Laws.CopyOwn
import Derived.Deep.DeepCutAuto
import Derived.Deep.Cut
namespace Go.Proofs.YtaheibbbdglcmaaDoor
open Go.RowKit Fk Sha
/-! A block is absorbed. -/
theorem st_of {P : Program} {f : FuncId} {args : Array Value} {w : World} {r : Ending} (h : Calls P f args w fun e w' => e = r ∧ w = w') : Calls P f args w fun e w' => e = r ∧ w' = w :=
  h.mono fun _ _ ⟨h1, h2⟩ => ⟨h1, h2.symm⟩
theorem add_n3 (a b c : Sha.W) : (un a + un b + un c) % 4294967296 = un (a + b + c) := by
  unfold un; rw [BitVec.toNat_add, BitVec.toNat_add]; omega
theorem add_n4 (a b c d : Sha.W) : (un a + un b + un c + un d) % 4294967296 = un (a + b + c + d) := by
  unfold un; rw [BitVec.toNat_add, BitVec.toNat_add, BitVec.toNat_add]; omega
theorem add_n5 (a b c d e : Sha.W) : (un a + un b + un c + un d + un e) % 4294967296 = un (a + b + c + d + e) := by
  unfold un; rw [BitVec.toNat_add, BitVec.toNat_add, BitVec.toNat_add, BitVec.toNat_add]; omega
theorem st8 {W : World} {b : Nat} {t : TypeId} {s : St} (h : Row W b t (s.list.map u)) : W.cell? ⟨b, 0, none⟩ = some (.int .u32 (un s.a)) ∧ W.cell? ⟨b, 1, none⟩ = some (.int .u32 (un s.b)) ∧ W.cell? ⟨b, 2, none⟩ = some (.int .u32 (un s.c)) ∧ W.cell? ⟨b, 3, none⟩ = some (.int .u32 (un s.d)) ∧ W.cell? ⟨b, 4, none⟩ = some (.int .u32 (un s.e)) ∧ W.cell? ⟨b, 5, none⟩ = some (.int .u32 (un s.f)) ∧ W.cell? ⟨b, 6, none⟩ = some (.int .u32 (un s.g)) ∧ W.cell? ⟨b, 7, none⟩ = some (.int .u32 (un s.h)) :=
  ⟨Row.cell h 0, Row.cell h 1, Row.cell h 2, Row.cell h 3, Row.cell h 4, Row.cell h 5, Row.cell h 6, Row.cell h 7⟩
theorem addr_add0 (b off k : Nat) : (Addr.add ⟨b, off, none⟩ k) = ⟨b, off + k, none⟩ := by
  unfold Addr.add; split
  · subst k; rfl
  · rfl
/-- the first k words are summed up -/
def mixL (s t : St) (k : Nat) : List Value := ((s.add t).list.take k ++ s.list.drop k).map u
theorem mixL_at (s t : St) {k : Nat} (h : k < 8) : (mixL s t k)[k]? = some (u (s.list.getD k 0)) := by
  rcases (show k = 0 ∨ k = 1 ∨ k = 2 ∨ k = 3 ∨ k = 4 ∨ k = 5 ∨ k = 6 ∨ k = 7 by omega) with rfl | rfl | rfl | rfl | rfl | rfl | rfl | rfl <;> rfl
theorem mixL_set (s t : St) {k : Nat} (h : k < 8) : (mixL s t k).set k (u (s.list.getD k 0 + t.list.getD k 0)) = mixL s t (k + 1) := by
  rcases (show k = 0 ∨ k = 1 ∨ k = 2 ∨ k = 3 ∨ k = 4 ∨ k = 5 ∨ k = 6 ∨ k = 7 by omega) with rfl | rfl | rfl | rfl | rfl | rfl | rfl | rfl <;> rfl
/-- the tables as the program's text lays them -/
def Tab (w : World) : Prop := (∀ i, i < 64 → w.cell? ⟨1, i, none⟩ = some (u (numbersL.getD i 0))) ∧ (∀ i, i < 8 → w.cell? ⟨0, i, none⟩ = some (u (startS.list.getD i 0)))
theorem Tab.keep {w w' : World} (h : Tab w) {g : Nat} (hg : 1 < g ∧ 0 < g) (hk : ∀ b, b < g → w'.heap[b]? = w.heap[b]?) : Tab w' :=
  ⟨fun i hi => (World.cell?_of_block (w := w) (a := ⟨1, i, none⟩) (hk _ hg.1)).trans (h.1 i hi), fun i hi => (World.cell?_of_block (w := w) (a := ⟨0, i, none⟩) (hk _ hg.2)).trans (h.2 i hi)⟩
/-- the block of the words: the first ones are laid -/
structure Wd (w W : World) (l : List Sha.W) : Prop where
  below : Below w.heap.size w W
  size : W.heap.size = w.heap.size + 1
  row : Row W w.heap.size 117 (l.map u ++ List.replicate (64 - l.length) (.int .u32 0))
theorem Wd.get {w W : World} {l : List Sha.W} (h : Wd w W l) {i : Nat} (hi : i < l.length) : W.cell? ⟨w.heap.size, i, none⟩ = some (u (l.getD i 0)) := by
  rw [Row.cell h.row, List.getElem?_append_left (by simpa using hi), List.getElem?_map, List.getD_eq_getElem?_getD, List.getElem?_eq_getElem hi]; rfl
theorem Wd.put {w W : World} {l : List Sha.W} (h : Wd w W l) {k : Nat} (hk : l.length = k) (hlt : k < 64) (x : Sha.W) : Wd w (W.setCell ⟨w.heap.size, k, none⟩ (u x)) (l ++ [x]) := by
  refine ⟨h.below.setCell (Nat.le_refl _) _, by simp [World.setCell, h.size], ?_⟩
  have := Row.store h.row k (u x)
  subst hk
  have e : (List.map u l ++ List.replicate (64 - l.length) (Value.int IntKind.u32 0)).set l.length (u x) = List.map u (l ++ [x]) ++ List.replicate (64 - (l ++ [x]).length) (Value.int IntKind.u32 0) := by
    obtain ⟨n, hn⟩ : ∃ n, 64 - l.length = n + 1 := ⟨64 - l.length - 1, by omega⟩
    rw [List.set_append_right _ _ (by simp), hn, List.length_append, show 64 - (l.length + [x].length) = n by simp; omega]
    simp [List.replicate_succ]
  rw [e] at this
  exact this
theorem Wd.drewN {w W : World} {l : List Sha.W} (h : Wd w W l) (n : Nat) : Wd w (W.drewN n) l := ⟨⟨h.below.os, h.below.tape, h.below.output, h.below.size, h.below.block⟩, h.size, h.row⟩
theorem Wd.drew {w W : World} {l : List Sha.W} (h : Wd w W l) : Wd w W.drew l := ⟨h.below.drew, h.size, h.row⟩
set_option maxRecDepth 100000 in
set_option maxHeartbeats 4000000 in
theorem absorb_any (s : St) (blk : List B) (g bg off cap : Nat) (w : World) (hS : Row w g 95 (s.list.map u)) (hl : blk.length = 64) (hcap : 64 ≤ cap) (hcap2 : cap ≤ 9223372036854775807)
    (hB : ∀ i, i < 64 → w.cell? ⟨bg, off + i, none⟩ = some (bv (blk.getD i default))) (hbg : bg < w.heap.size) (hT : Tab w) (hg : 1 < g) :
    Calls Tryd.prog 68 #[.pointer (some ⟨g, 0, none⟩), .slice (some ⟨bg, off, none⟩) 64 cap] w fun e w' => e = .returned (.tuple #[]) ∧ Row w' g 95 ((absorb s blk).list.map u) ∧ w.grownBy w' (some g) := by
  go_enter Tryd.func68, Tryd.ntmps68
  go_wp2_with fail
  have hb := Lib.hid hB
  have hT' := Lib.hid hT
  have hS' := Lib.hid hS
  have hl16 := fun k => first16_length blk k
  have hwd : Wd w (w.alloc (Obj.cells (List.replicate 64 (Value.int IntKind.u32 0)).toArray 117)) [] := ⟨(Below.refl _ _).alloc (Nat.le_refl _) _, by simp, Row.new w _ _⟩
  clear hB hT hS
  go_loopg [14] 16 (fun gk i wr => ∃ k : Nat, i = .int .i64 k ∧ k + gk = 16 ∧ Wd w wr (first16 blk k))
  case atStart => exact ⟨0, rfl, rfl, hwd⟩
  case round =>
    obtain ⟨k, rfl, hk, hR⟩ := hrel
    by_cases hlt : k < 16
    · have hc : ∀ i, i < 4 → wr.cell? ⟨bg, off + 4 * k + i, none⟩ = some (bv (((blk.drop (4 * k)).take 4).getD i default)) := fun i hi => by
        rw [hR.below.cell (p := ⟨bg, off + 4 * k + i, none⟩) hbg, Nat.add_assoc, hb.out _ (by omega), List.getD_eq_getElem?_getD, List.getD_eq_getElem?_getD, List.getElem?_take_of_lt hi, List.getElem?_drop]
      have hw := fun len cap h1 h2 => word_any ((blk.drop (4 * k)).take 4) bg (off + 4 * k) len cap wr (by simp; omega) h1 h2 hc
      have hp := hR.put (hl16 k) (by omega) (wd ((blk.drop (4 * k)).take 4))
      have hf := Row.frozen hR.row k
      have hcl : ∃ v, wr.cell? ⟨w.heap.size, k, none⟩ = some v := ⟨_, (Row.cell hR.row k).trans (List.getElem?_eq_getElem (by simp [hl16]; omega))⟩
      obtain ⟨v0, hv0⟩ := hcl
      unfold u at hw hp
      generalize un (wd ((blk.drop (4 * k)).take 4)) = x at *
      have HW := Lib.hid hw
      have HP := Lib.hid hp
      clear hw hp hc hR hl16 hwd
      go_wp2_with (go_at_call 84; (with_reducible refine (HW.out _ _ (by omega) (by omega)).mono ?_); rintro e w1 ⟨rfl, rfl⟩)
      go_roundg (gk - 1)
      case measure => omega
      case rel => exact ⟨k + 1, by go_num, by omega, HP.out⟩
    · obtain rfl : k = 16 := by omega
      have hsc : Wd w wr (sched blk 0) := hR
      clear hR hwd
      go_wp2_with fail
      clear hl16
      go_loopg [6] 48 (fun gk i wr => ∃ k : Nat, i = .int .i64 k ∧ 16 ≤ k ∧ k + gk = 64 ∧ Wd w wr (sched blk (k - 16)))
      case atStart => exact ⟨16, rfl, by omega, rfl, hsc⟩
      case round =>
        obtain ⟨k, rfl, hk16, hk, hR⟩ := hrel
        by_cases hlt : k < 64
        · have hlen := sched_length blk (k - 16)
          have HRk := Lib.hid hR
          have c15 := hR.get (i := k - 15) (by omega)
          have c2 := hR.get (i := k - 2) (by omega)
          obtain ⟨X, hX⟩ : ∃ X, (sched blk (k - 16)).getD (k - 15) 0 = X := ⟨_, rfl⟩
          obtain ⟨Y, hY⟩ : ∃ Y, (sched blk (k - 16)).getD (k - 2) 0 = Y := ⟨_, rfl⟩
          rw [hX] at c15
          rw [hY] at c2
          have HX := Lib.hid hX
          have HY := Lib.hid hY
          clear hR hsc hlen hX hY
          unfold u at c15 c2
          have s1 : IntKind.i64.wrap ((k : Int) - 15) = (k : Int) - 15 := IntWalk.i64_in _ (by omega)
          have s2 : IntKind.i64.wrap ((k : Int) - 2) = (k : Int) - 2 := IntWalk.i64_in _ (by omega)
          have s3 : (0 : Int) ≤ (k : Int) - 15 := by omega
          have s4 : (k : Int) - 15 < 64 := by omega
          have s5 : (0 : Int) ≤ (k : Int) - 2 := by omega
          have s6 : (k : Int) - 2 < 64 := by omega
          have s7 : ((k : Int) - 15).toNat = k - 15 := by omega
          have s8 : ((k : Int) - 2).toNat = k - 2 := by omega
          go_wp2_with fail
          go_quiet (fail)
          clear c15 c2 s1 s2 s3 s4 s5 s6 s7 s8
          go_wp2_with fail
          have hR := HRk.out.drewN nq
          clear HRk
          generalize wr.drewN nq = W2 at *
          have hlen := sched_length blk (k - 16)
          have c16 := hR.get (i := k - 16) (by omega)
          have c7 := hR.get (i := k - 7) (by omega)
          have hp := hR.put (k := k) (by omega) hlt (nextW (sched blk (k - 16)) k)
          have hf := Row.frozen hR.row k
          obtain ⟨v0, hv0⟩ : ∃ v, W2.cell? ⟨w.heap.size, k, none⟩ = some v := ⟨_, (Row.cell hR.row k).trans (List.getElem?_eq_getElem (by simp; omega))⟩
          have e1 : sched blk (k + 1 - 16) = sched blk (k - 16) ++ [nextW (sched blk (k - 16)) k] := by
            have : nextW (sched blk (k - 16)) k = nextW (sched blk (k - 16)) (16 + (k - 16)) := by rw [show 16 + (k - 16) = k by omega]
            rw [this, show k + 1 - 16 = (k - 16) + 1 by omega]; rfl
          rw [← e1] at hp
          have hn : nextW (sched blk (k - 16)) k = (sched blk (k - 16)).getD (k - 16) 0 + s0 ((sched blk (k - 16)).getD (k - 15) 0) + (sched blk (k - 16)).getD (k - 7) 0 + s1 ((sched blk (k - 16)).getD (k - 2) 0) := rfl
          rw [hn, HX.out, HY.out] at hp
          generalize (sched blk (k - 16)).getD (k - 16) 0 = A at *
          generalize (sched blk (k - 16)).getD (k - 7) 0 = Z at *
          have r7 := fun w => st_of (rot_7 X w)
          have r18 := fun w => st_of (rot_18 X w)
          have r17 := fun w => st_of (rot_17 Y w)
          have r19 := fun w => st_of (rot_19 Y w)
          have q3 := shr_lit3 X
          have q10 := shr_lit10 Y
          have HP := Lib.hid hp
          clear hp e1 hR hlen hn
          unfold u at c16 c7 r7 r18 r17 r19
          have bX := un_bd X
          have bY := un_bd Y
          have s1 : IntKind.i64.wrap ((k : Int) - 16) = (k : Int) - 16 := IntWalk.i64_in _ (by omega)
          have s2 : IntKind.i64.wrap ((k : Int) - 7) = (k : Int) - 7 := IntWalk.i64_in _ (by omega)
          have s3 : (0 : Int) ≤ (k : Int) - 16 := by omega
          have s4 : (k : Int) - 16 < 64 := by omega
          have s5 : (0 : Int) ≤ (k : Int) - 7 := by omega
          have s6 : (k : Int) - 7 < 64 := by omega
          have s7 : ((k : Int) - 16).toNat = k - 16 := by omega
          have s8 : ((k : Int) - 7).toNat = k - 7 := by omega
          have s9 : (0 : Int) ≤ k := by omega
          have s10 : (k : Int) < 64 := by omega
          have s11 : (16 : Int) ≤ k := by omega
          have s12 : (7 : Int) ≤ k := by omega
          go_still_tail 29, (by kernel_rfl)
          still_call (r7 _)
          repeat still_step
          still_call (r18 _)
          repeat still_step
          still_call (r17 _)
          repeat still_step
          still_call (r19 _)
          repeat still_step
          refine wpStill_nil ?_
          change wpList _ _ _ _ _ W2.drew
          clear s1 s2 s3 s4 s5 s6 s7 s8 s11 s12 r7 r18 r17 r19
          go_wp2_with fail
          go_roundg (gk - 1)
          case measure => omega
          case rel =>
            refine ⟨k + 1, by go_num, by omega, by omega, ?_⟩
            rw [xor_n, xor_n, xor_n, xor_n, add_n4]
            exact HP.out.drew
        · obtain rfl : k = 64 := by omega
          have hsc : Wd w wr (sched blk 48) := hR
          clear hR
          have hS0 : Row wr g 95 (s.list.map u) := Row.keep hS'.out (hsc.below.block _ (Row.lt hS'.out))
          obtain ⟨c0, c1, c2, c3, c4, c5, c6, c7⟩ := st8 hS0
          have hz := hsc.size
          obtain ⟨vb, hvb⟩ : ∃ vb, wr.heap.size = vb := ⟨_, rfl⟩
          have HV := Lib.hid hvb
          have HSC := Lib.hid hsc
          clear hS0 hsc hz
          go_wp2_with fail
          obtain ⟨wo, rfl⟩ : ∃ wo : World, wo = wr := ⟨_, rfl⟩
          have hrow0 : Row (wo.alloc (.cells (s.list.map u).toArray 95)) vb 95 (s.list.map u) := hvb ▸ Row.new wo _ _
          have hbel0 : Below vb wo (wo.alloc (.cells (s.list.map u).toArray 95)) := hvb ▸ (Below.refl _ _).alloc (Nat.le_refl _) _
          clear hvb c0 c1 c2 c3 c4 c5 c6 c7
          go_loopg [69] 64 (fun gk i wx => ∃ k : Nat, i = .int .i64 k ∧ k + gk = 64 ∧ Below vb wo wx ∧ Row wx vb 95 ((rounds s (sched blk 48) k).list.map u))
          case atStart => exact ⟨0, rfl, rfl, hbel0, hrow0⟩
          case round =>
            clear hrow0 hbel0
            obtain ⟨k, rfl, hk, hbel, hrow⟩ := hrel
            by_cases hlt : k < 64
            · obtain ⟨c0, c1, c2, c3, c4, c5, c6, c7⟩ := st8 hrow
              have hzw : w.heap.size < vb := by have := HSC.out.size; have := HV.out; omega
              have cw : wr.cell? ⟨w.heap.size, k, none⟩ = some (u ((sched blk 48).getD k 0)) := (hbel.cell (p := ⟨w.heap.size, k, none⟩) hzw).trans (HSC.out.get (by rw [sched_length]; omega))
              have cn : wr.cell? ⟨1, k, none⟩ = some (u (numbersL.getD k 0)) := by
                have hgz := Row.lt hS'.out
                rw [hbel.cell (p := ⟨1, k, none⟩) (by simp only []; omega), HSC.out.below.cell (p := ⟨1, k, none⟩) (by simp only []; omega)]
                exact hT'.out.1 k hlt
              have hnext : rounds s (sched blk 48) (k + 1) = round (rounds s (sched blk 48) k) (numbersL.getD k 0) ((sched blk 48).getD k 0) := rfl
              obtain ⟨K, hK⟩ : ∃ K, numbersL.getD k 0 = K := ⟨_, rfl⟩
              obtain ⟨X, hX⟩ : ∃ X, (sched blk 48).getD k 0 = X := ⟨_, rfl⟩
              obtain ⟨t, ht⟩ : ∃ t, rounds s (sched blk 48) k = t := ⟨_, rfl⟩
              rw [hK] at cn hnext
              rw [hX] at cw hnext
              rw [ht] at c0 c1 c2 c3 c4 c5 c6 c7 hnext hrow
              have HN := Lib.hid hnext
              have HR := Lib.hid hrow
              have HB := Lib.hid hbel
              obtain ⟨ta, tb, tc, td, te, tf, tg, th⟩ := t
              simp only [] at c0 c1 c2 c3 c4 c5 c6 c7
              clear hK hX ht hnext hrow hbel
              have q1 := fun w => st_of (rotated_6 te w)
              have q2 := fun w => st_of (rotated_2 ta w)
              unfold u at cw cn q1 q2
              have s9 : (0 : Int) ≤ k := by omega
              have s10 : (k : Int) < 64 := by omega
              go_wp2_with fail
              go_quiet ((go_at_call 86; exact Calls.quiet_of_same (q1 _)))
              rw [xor_n, and_n, xor_n, add_n4, add_n]
              clear cw cn q1 s9 s10
              go_wp2_with fail
              generalize te_p : th + rot3 te 6 11 25 + (tg ^^^ te &&& (tf ^^^ tg)) + K + X = p
              have HPp := Lib.hid te_p
              have hrow : Row (wr.drewN nq) vb 95 ((⟨ta, tb, tc, td, te, tf, tg, th⟩ : St).list.map u) := HR.out
              have hbel : Below vb wo (wr.drewN nq) := ⟨HB.out.os, HB.out.tape, HB.out.output, HB.out.size, HB.out.block⟩
              clear te_p c0 c1 c2 c3 c4 c5 c6 c7 HR HB
              generalize wr.drewN nq = W3 at *
              obtain ⟨c0, c1, c2, c3, c4, c5, c6, c7⟩ := st8 hrow
              simp only [] at c0 c1 c2 c3 c4 c5 c6 c7
              have HR := Lib.hid hrow
              have HB := Lib.hid hbel
              clear hrow hbel
              go_quiet ((go_at_call 86; exact Calls.quiet_of_same (q2 _)))
              rw [and_n, or_n, and_n, or_n, add_n]
              clear c0 c1 c2 c3 c4 c5 c6 c7 q2
              generalize te_q : rot3 ta 2 13 22 + (ta &&& tb ||| tc &&& (ta ||| tb)) = q
              have HQ := Lib.hid te_q
              clear te_q
              go_wp2_with fail
              have hrow : Row (W3.drewN nq).drew vb 95 ((⟨ta, tb, tc, td, te, tf, tg, th⟩ : St).list.map u) := HR.out
              have hbel : Below vb wo (W3.drewN nq).drew := ⟨HB.out.os, HB.out.tape, HB.out.output, HB.out.size, HB.out.block⟩
              clear HR HB
              generalize W3.drewN nq = W4 at *
              go_still_tail 2, (by kernel_rfl)
              change wpList _ _ _ _ _ W4.drew
              generalize W4.drew = W5 at *
              refine wpList_copy_splice rfl (.tmp 116) (.tmp 117) 121 121 rfl 93 Tryd.underlying121 (by kernel_rfl) (some ⟨vb, 1, none⟩) (some ⟨vb, 0, none⟩) 7 7 7 8 rfl rfl vb 1 ((⟨ta, tb, tc, td, te, tf, tg, th⟩ : St).list.map u) 95 hrow [u ta, u tb, u tc, u td, u te, u tf, u tg] rfl (fun _ => ⟨rfl, ⟨vb, 0, none⟩, rfl, fun j v hj => ?_⟩) (by simp [St.list]) (fun v hv => ?_) vb wo hbel (Nat.le_refl _) ?_
              · rw [addr_add0, Row.cell hrow, Nat.zero_add]
                rcases j with _ | _ | _ | _ | _ | _ | _ | j
                all_goals first | exact hj | simp at hj
              · simp only [List.mem_cons, List.not_mem_nil, or_false] at hv
                rcases hv with rfl | rfl | rfl | rfl | rfl | rfl | rfl <;> rfl
              intro W6 hr6 hb6
              have hr : Row W6 vb 95 [u ta, u ta, u tb, u tc, u td, u te, u tf, u tg] := hr6.out
              have c4 : W6.cell? ⟨vb, 4, none⟩ = some (.int .u32 (un td)) := Row.cell hr 4
              have c0 : W6.cell? ⟨vb, 0, none⟩ = some (.int .u32 (un ta)) := Row.cell hr 0
              have f4 := Row.frozen hr 4
              have f0 := Row.frozen hr 0
              have hr2 := Row.store (Row.store hr 4 (u (td + p))) 0 (u (p + q))
              have hb2 := (hb6.setCell (p := ⟨vb, 4, none⟩) (Nat.le_refl _) (u (td + p))).setCell (p := ⟨vb, 0, none⟩) (Nat.le_refl _) (u (p + q))
              have e : round ⟨ta, tb, tc, td, te, tf, tg, th⟩ K X = ⟨p + q, ta, tb, tc, td + p, te, tf, tg⟩ := by rw [← HPp.out, ← HQ.out]; rfl
              rw [e] at HN
              unfold u at hr2 hb2
              have HR := Lib.hid hr2
              have HB := Lib.hid hb2
              have HE := Lib.hid (add_n td p)
              have HF := Lib.hid (add_n p q)
              clear hr2 hb2 hr hr6 hb6 e HPp HQ hrow hbel
              go_wp2_with fail
              rw [HE.out, HF.out]
              go_roundg (gk - 1)
              case measure => omega
              case rel => exact ⟨k + 1, by go_num, by omega, HB.out, by rw [HN.out]; exact HR.out⟩
            · obtain rfl : k = 64 := by omega
              have hgz := Row.lt hS'.out
              have hzw : w.heap.size < vb := by have := HSC.out.size; have := HV.out; omega
              have hS1 : Row wr g 95 (mixL s (rounds s (sched blk 48) 64) 0) := Row.keep (Row.keep hS'.out (HSC.out.below.block _ hgz)) (hbel.block _ (by omega))
              have hG : w.grownBy wr (some g) := ⟨hbel.os.trans HSC.out.below.os, hbel.tape.trans HSC.out.below.tape, hbel.output.trans HSC.out.below.output, Nat.le_trans HSC.out.below.size hbel.size, fun b hb _ => (hbel.block b (by omega)).trans (HSC.out.below.block b hb)⟩
              have hab : absorb s blk = s.add (rounds s (sched blk 48) 64) := rfl
              generalize rounds s (sched blk 48) 64 = t at *
              have HAB := Lib.hid hab
              clear hab
              have hvg : g ≠ vb := by omega
              clear hbel
              obtain ⟨wp, rfl⟩ : ∃ wp : World, wp = wr := ⟨_, rfl⟩
              go_wp2_with fail
              go_loopg [129] 8 (fun gk i wx => ∃ k : Nat, i = .int .i64 k ∧ k + gk = 8 ∧ Row wx g 95 (mixL s t k) ∧ Row wx vb 95 (t.list.map u) ∧ w.grownBy wx (some g))
              case atStart => exact ⟨0, rfl, rfl, hS1, hrow, hG⟩
              case round =>
                clear hS1 hrow hG
                obtain ⟨k, rfl, hk, hS1, hrow, hG⟩ := hrel
                by_cases hlt : k < 8
                · have cg : wr.cell? ⟨g, k, none⟩ = some (u (s.list.getD k 0)) := (Row.cell hS1 k).trans (mixL_at s t hlt)
                  have cv : wr.cell? ⟨vb, k, none⟩ = some (u (t.list.getD k 0)) := (Row.cell hrow k).trans (by rw [List.getElem?_map, List.getD_eq_getElem?_getD, List.getElem?_eq_getElem (by simpa [St.list] using hlt)]; rfl)
                  have fg := Row.frozen hS1 k
                  have hr2 := Row.store hS1 k (u (s.list.getD k 0 + t.list.getD k 0))
                  rw [mixL_set s t hlt] at hr2
                  have hr3 := Row.other hrow (p := ⟨g, k, none⟩) (Ne.symm hvg) (u (s.list.getD k 0 + t.list.getD k 0))
                  have hg2 := grownBy_trans hG (grownBy_set wr g k (u (s.list.getD k 0 + t.list.getD k 0)))
                  generalize s.list.getD k 0 = A at *
                  generalize t.list.getD k 0 = X at *
                  unfold u at cg cv
                  have HE := add_n A X
                  have HR := Lib.hid (show Row (wr.setCell ⟨g, k, none⟩ (.int .u32 (un (A + X)))).drew g 95 (mixL s t (k + 1)) from hr2)
                  have HT := Lib.hid (show Row (wr.setCell ⟨g, k, none⟩ (.int .u32 (un (A + X)))).drew vb 95 (t.list.map u) from hr3)
                  have HG := Lib.hid (show w.grownBy (wr.setCell ⟨g, k, none⟩ (.int .u32 (un (A + X)))).drew (some g) from ⟨hg2.os, hg2.tape, hg2.output, hg2.size, hg2.block⟩)
                  have HEh := Lib.hid HE
                  clear hr2 hr3 hg2 hS1 hrow hG HE
                  have s9 : (0 : Int) ≤ k := by omega
                  have s10 : (k : Int) < 8 := by omega
                  go_wp2_with fail
                  go_still_tail 11, (by kernel_rfl)
                  change wpList _ _ _ _ _ wr.drew
                  go_wp2_with fail
                  rw [HEh.out]
                  go_roundg (gk - 1)
                  case measure => omega
                  case rel => exact ⟨k + 1, by go_num, by omega, HR.out, HT.out, HG.out⟩
                · obtain rfl : k = 8 := by omega
                  go_wp2_with fail
                  go_end0
                  exact ⟨rfl, by rw [HAB.out]; exact hS1, hG⟩
end Go.Proofs.YtaheibbbdglcmaaDoor
