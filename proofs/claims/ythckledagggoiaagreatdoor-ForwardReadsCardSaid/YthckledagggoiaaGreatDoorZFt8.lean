import Derived.Test.YthckledagggoiaaGreatDoorZFt7
import Derived.Great.BuildSlice
set_option linter.unusedSimpArgs false
set_option linter.unusedVariables false
namespace Go.Proofs.YthckledagggoiaaGreatDoor
open Go.RowKit Go.Shelf Fk Sha
/-! onetime.Make, where all is right. -/
theorem ret_make (tmps : Array Value) (W : World) (g : Nat) (cs : List Value) (E : Int) (hl : cs.length = 36) (h8 : tmps[8]?.getD undef = .pointer (some ⟨g, 0, none⟩)) (h9 : tmps[9]?.getD undef = .int .i64 E) (hr : Row W g 36 cs) :
    (results Tryz.f43 tmps).run Tryz.prog W = .ok (.tuple #[.agg cs.toArray, .int .i64 E]) W := by
  have hinf : (Tryz.prog.info? 36).map (·.size) = some 36 := by kernel_rfl
  have h := run_loadVar_row (P := Tryz.prog) W g 36 36 cs.toArray (0, 0) _ hr Tryz.underlying36 rfl (by rw [hinf]; simp [hl])
  simp [results, Tryz.f43, h8, h9, asAddr, h]
def makeA (r : Int) : Int := timesC 1 4 r
def makeB (key al r : Int) : Int := timesC (elC al) key r
def makeC (line key al r : Int) : List Value := retC line key (makeA r) (makeB key al r) ((tagN line key (makeA r) (makeB key al r)).map bv)
theorem mulC_bd (a b : Int) : 0 ≤ mulC a b ∧ mulC a b < 2147483579 := by
  unfold mulC
  split
  · exact ⟨Int.emod_nonneg _ (by decide), Int.emod_lt_of_pos _ (by decide)⟩
  · decide
theorem vld_bd {x : Int} (h : vld x = true) : 1 ≤ x ∧ x < 2147483579 := by
  unfold vld at h
  simp only [Bool.and_eq_true, decide_eq_true_eq] at h
  exact ⟨h.1, h.2.1⟩
theorem store_part {cs : List Value} (h1 : ∀ v ∈ cs, v.oneCell' = true) {W : World} {g o : Nat} {t : TypeId} {vs : List Value} (hR : Row W g t vs) (hl : o + cs.length ≤ vs.length) : (storeCells ⟨g, o, none⟩ cs).run Tryz.prog W = .ok () (W.setRow g (vs.take o ++ cs ++ vs.drop (o + cs.length)).toArray) := by
  have := run_storeCells_at (P := Tryz.prog) g o t cs 0 vs.toArray W hR (by simpa using hl) h1
  simpa using this
theorem store_whole {cs : List Value} (h1 : ∀ v ∈ cs, v.oneCell' = true) {W : World} {g : Nat} {t : TypeId} {vs : List Value} (hR : Row W g t vs) (hl : vs.length = cs.length) : (storeCells ⟨g, 0, none⟩ cs).run Tryz.prog W = .ok () (W.setRow g cs.toArray) := by
  have := store_part (o := 0) h1 hR (by omega)
  have e : vs.take 0 ++ cs ++ vs.drop (0 + cs.length) = cs := by
    rw [List.drop_of_length_le (by omega), List.append_nil, List.take_zero, List.nil_append]
  rw [e] at this
  exact this
theorem store_self {cs : List Value} (h1 : ∀ v ∈ cs, v.oneCell' = true) {W : World} {g : Nat} {t : TypeId} (hR : Row W g t cs) : (storeCells ⟨g, 0, none⟩ cs).run Tryz.prog W = .ok () W := by
  have := setRow_self W g _ _ _ hR
  rw [store_whole h1 hR rfl, this]
theorem one_cells {ds : List Value} (hd : ∀ v ∈ ds, v.oneCell' = true) (line key a b : Int) : ∀ v ∈ retC line key a b ds, v.oneCell' = true := by
  intro v hv
  unfold retC at hv
  rw [List.mem_append] at hv
  rcases hv with hv | hv
  · simp at hv
    rcases hv with rfl | rfl | rfl | rfl <;> rfl
  · exact hd v hv
theorem one_zero : ∀ v ∈ zero32, v.oneCell' = true := fun v hv => by rw [List.eq_of_mem_replicate hv]; rfl
theorem one_bv (D : List B) : ∀ v ∈ D.map bv, v.oneCell' = true := fun v hv => by obtain ⟨y, _, rfl⟩ := List.mem_map.1 hv; rfl
theorem retC_put {line key a b : Int} {ds : List Value} (h : ds.length = 32) : (retC line key a b zero32).take 4 ++ ds ++ (retC line key a b zero32).drop (4 + ds.length) = retC line key a b ds := by
  rw [h]
  simp [retC, zero32]
set_option maxRecDepth 100000 in
set_option maxHeartbeats 4000000 in
theorem omake_any (line key al r : Int) (h1 : 0 ≤ line ∧ line < 64) (hk : vld key = true) (ha : 1 ≤ al ∧ al ≤ 1073741789) (w : World) (hT : TabOK w) :
    Calls Tryz.prog 43 #[.int .i64 line, .int .i64 key, .int .i64 al, .int .i64 r] w fun e w' => e = .returned (.tuple #[.agg (makeC line key al r).toArray, .int .i64 0]) ∧ Below w.heap.size w w' := by
  have c1 := fun W => valid_any key W
  have c2 := fun W => element_any al W
  have hel : elE al = 0 := by unfold elE; rw [if_pos ha]
  rw [hk] at c1
  rw [hel] at c2
  have c3 := fun W => seal_any key 1 (elC al) r W
  have eA : timesC 1 4 r = makeA r := rfl
  have eB : timesC (elC al) key r = makeB key al r := rfl
  rw [eA, eB] at c3
  have kb := vld_bd hk
  have kA : 0 ≤ makeA r ∧ makeA r < 2147483579 := by unfold makeA timesC; exact mulC_bd _ _
  have kB : 0 ≤ makeB key al r ∧ makeB key al r < 2147483579 := by unfold makeB timesC; exact mulC_bd _ _
  have hs := small4 (a := line) (b := key) (c := makeA r) (d := makeB key al r) (by omega) (by omega) (by omega) (by omega)
  have hmc : makeC line key al r = retC line key (makeA r) (makeB key al r) ((tagN line key (makeA r) (makeB key al r)).map bv) := rfl
  have htl := tagN_len line key (makeA r) (makeB key al r)
  have c4 := fun (ds : List Value) (hd : ds.length = 32) (W : World) (hb : Below w.heap.size w W) => tag_any line key (makeA r) (makeB key al r) hs ds hd W (hT.below hb)
  obtain ⟨MA, hMA⟩ : ∃ x, makeA r = x := ⟨_, rfl⟩
  obtain ⟨MB, hMB⟩ : ∃ x, makeB key al r = x := ⟨_, rfl⟩
  obtain ⟨EL, hEL⟩ : ∃ x, elC al = x := ⟨_, rfl⟩
  rw [hMA, hMB] at c3 hmc htl c4
  rw [hEL] at c2 c3
  obtain ⟨D, hD⟩ : ∃ x, tagN line key MA MB = x := ⟨_, rfl⟩
  rw [hD] at hmc htl c4
  have C1 := Lib.hid c1
  have C2 := Lib.hid c2
  have C3 := Lib.hid c3
  have C4 := Lib.hid (c4 zero32 rfl)
  have HMC := Lib.hid hmc
  have HTL := Lib.hid htl
  have f1 : decide (line < 0) = false := decide_eq_false (by omega)
  have f2 : decide (64 ≤ line) = false := decide_eq_false (by omega)
  have r0 := Row.new w 36 (retC 0 0 0 0 zero32)
  have hB := below_alloc' w (.cells (retC 0 0 0 0 zero32).toArray 36)
  clear c1 c2 c3 c4 hmc htl hD hMA hMB hEL hs hk ha h1 kb kA kB eA eB hel hT
  have hinf : Hid ((Tryz.prog.info? 36).map (·.size) = some 36) := Lib.hid (by kernel_rfl)
  have hinfD : Hid ((Tryz.prog.info? 34).map (·.size) = some 32) := Lib.hid (by kernel_rfl)
  go_enter Tryz.func43, Tryz.ntmps43
  go_upto_region 1 with fail
  obtain ⟨W, hW⟩ : ∃ W, w.alloc (.cells (retC 0 0 0 0 zero32).toArray 36) = W := ⟨_, rfl⟩
  replace r0 : Row W w.heap.size 36 (retC 0 0 0 0 zero32) := hW ▸ r0
  rw [hW] at hB
  refine (show _ = W from hW) ▸ ?_
  clear hW
  go_wp2_with (first
    | (go_at_call 59; (with_reducible refine (C1.out _).mono ?_); rintro e w1 ⟨rfl, rfl⟩)
    | (go_at_call 61; (with_reducible refine (C2.out _).mono ?_); rintro e w1 ⟨rfl, rfl⟩)
    | (go_at_call 63; (with_reducible refine (C3.out _).mono ?_); rintro e w1 ⟨rfl, hb⟩; have r1 := r0.below hb r0.lt; have hB1 := hB.trans (hb.mono hB.size); have hst := store_whole (one_cells one_zero line key MA MB) r1 rfl; have r2 := Row.part r1 (retC line key MA MB zero32); have hB2 := below_setRow hB1 (Nat.le_refl w.heap.size) (retC line key MA MB zero32).toArray; generalize w1.setRow w.heap.size (retC line key MA MB zero32).toArray = W2 at *; clear r0 hB hb r1 hB1)
    | (refine wpList_buildTo rfl 36 _ rfl (some 37) rfl (retC line key MA MB zero32).toArray (by kernel_rfl) ?_)
    | (refine wpList_load_row rfl 36 (.tmp 8) rfl w.heap.size rfl 36 _ (0, 0) _ r4 Tryz.underlying36 rfl (by rw [hinf.out]; simp [retC_len (HDL.out)]) ?_)
    | (refine wpList_load_row rfl 36 (.tmp 8) rfl w.heap.size rfl 36 _ (0, 0) _ r2 Tryz.underlying36 rfl (by rw [hinf.out]; rfl) ?_)
    | (go_at_call 60; (with_reducible refine (C4.out _ hB2).mono ?_); rintro e w3 ⟨rfl, hb⟩; have r3 := r2.below hb r2.lt; have hB3 := hB2.trans (hb.mono hB2.size);
        have hDL : (D.map bv).length = 32 := (by rw [List.length_map]; exact HTL.out);
        have hst3 := store_part (o := 4) (one_bv D) r3 (by rw [hDL]; exact Nat.le_refl _); rw [retC_put hDL] at hst3;
        have r4 := Row.part r3 (retC line key MA MB (D.map bv)); have hB4 := below_setRow hB3 (Nat.le_refl w.heap.size) (retC line key MA MB (D.map bv)).toArray;
        generalize w3.setRow w.heap.size (retC line key MA MB (D.map bv)).toArray = W4 at *;
        have hst4 := store_self (one_cells (one_bv D) line key MA MB) r4;
        have hl36 := retC_len (line := line) (key := key) (a := MA) (b := MB) hDL;
        have HDL := Lib.hid hDL;
        clear hb r3 hB3 r2 hB2 hDL))
  exact bodyPost_ret (ret_make _ _ _ _ _ (retC_len HDL.out) rfl rfl r4) rfl ⟨by rw [HMC.out], hB4⟩
end Go.Proofs.YthckledagggoiaaGreatDoor
