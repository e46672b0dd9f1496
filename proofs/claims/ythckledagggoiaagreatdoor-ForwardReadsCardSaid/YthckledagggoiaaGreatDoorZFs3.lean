import Derived.Test.YthckledagggoiaaGreatDoorZFs1
import Derived.Test.YthckledagggoiaaGreatDoorZFs2
import Derived.Test.YthckledagggoiaaGreatDoorZFr7
set_option linter.unusedSimpArgs false
set_option linter.unusedVariables false
namespace Go.Proofs.YthckledagggoiaaGreatDoor
open Go.RowKit Go.Shelf Fk Sha
/-! The law's own functions: entry, table, next. -/
def entryE (no kind a b : Int) : En := ⟨no, kind, a, b, 0, 2097152, 0, 2097152⟩
set_option maxHeartbeats 1000000 in
theorem entry_any (no kind a b : Int) (w : World) :
    Calls Tryz.prog 82 #[.int .i64 no, .int .i64 kind, .int .i64 a, .int .i64 b] w fun e w' => e = .returned (entryE no kind a b).val ∧ Below w.heap.size w w' := by
  unfold entryE En.val
  go_enter Tryz.func82, Tryz.ntmps82
  go_wp2
  exact bodyPost_ret (results_cell_row rfl _ _ w.heap.size 49 _ (0, 0) _ rfl (Row.new w 49 [.int .i64 no, .int .i64 kind, .int .i64 a, .int .i64 b, .int .i64 0, .int .i64 2097152, .int .i64 0, .int .i64 2097152]) Tryz.underlying49 rfl infoEn) rfl ⟨rfl, (Below.refl _ _).alloc (Nat.le_refl _) _⟩
theorem rowI {W : World} {g : Nat} (l : List Int) (h : Row W g 3 (l.flatMap Fk.encI)) (hl : l.length ≤ 9223372036854775807) : SlI W W.heap.size (.slice (some ⟨g, 0, none⟩) l.length l.length) l := h.sl (fun _ => rfl) hl h.lt
def lineX (p q : Nat) : Lx := ⟨.slice (some ⟨p, 0, none⟩) 3 3, .slice (some ⟨q, 0, none⟩) 2 2, 1, 1, .slice none 0 0, .slice none 0 0, [0, 1, 3], [1, 1], [], []⟩
theorem infoTT : (Tryz.prog.info? 24).map (·.size) = some 2 := by kernel_rfl
set_option maxRecDepth 100000 in
set_option maxHeartbeats 1000000 in
theorem table_any (w : World) :
    Calls Tryz.prog 34 #[] w fun e w' => ∃ v p q, e = .returned (ttV 4 v) ∧ SlX w' w'.heap.size v [lineX p q] ∧ Below w.heap.size w w' := by
  go_enter Tryz.func34, Tryz.ntmps34
  go_wp2
  obtain ⟨W0, hW0⟩ : ∃ W0, w.alloc (.cells #[.int .i64 4, .slice (some ⟨w.heap.size + 1 + 1 + 1, 0, none⟩) 1 1] 24) = W0 := ⟨_, rfl⟩
  have z0 : W0.heap.size = w.heap.size + 1 := by rw [← hW0]; simp
  have q0 := Row.new w 24 [.int .i64 4, .slice (some ⟨w.heap.size + 1 + 1 + 1, 0, none⟩) 1 1]
  have b0 := below_alloc' w (.cells #[.int .i64 4, .slice (some ⟨w.heap.size + 1 + 1 + 1, 0, none⟩) 1 1] 24)
  rw [hW0] at q0 b0 ⊢
  clear hW0
  obtain ⟨W1, hW1⟩ : ∃ W1, W0.alloc (.cells #[.int .i64 0, .int .i64 1, .int .i64 3] 3) = W1 := ⟨_, rfl⟩
  have z1 : W1.heap.size = w.heap.size + 1 + 1 := by rw [← hW1]; simp [z0]
  have q1 := Row.new W0 3 [.int .i64 0, .int .i64 1, .int .i64 3]
  have b1 := b0.alloc b0.size (.cells #[.int .i64 0, .int .i64 1, .int .i64 3] 3)
  replace q0 := q0.alloc (.cells #[.int .i64 0, .int .i64 1, .int .i64 3] 3)
  rw [hW1] at q0 q1 b1 ⊢
  rw [z0] at q1
  clear hW1 b0 z0
  obtain ⟨W2, hW2⟩ : ∃ W2, W1.alloc (.cells #[.int .i64 1, .int .i64 1] 3) = W2 := ⟨_, rfl⟩
  have z2 : W2.heap.size = w.heap.size + 1 + 1 + 1 := by rw [← hW2]; simp [z1]
  have q2 := Row.new W1 3 [.int .i64 1, .int .i64 1]
  have b2 := b1.alloc b1.size (.cells #[.int .i64 1, .int .i64 1] 3)
  replace q0 := q0.alloc (.cells #[.int .i64 1, .int .i64 1] 3)
  replace q1 := q1.alloc (.cells #[.int .i64 1, .int .i64 1] 3)
  rw [hW2] at q0 q1 q2 b2 ⊢
  rw [z1] at q2
  clear hW2 b1 z1
  have q3 := Row.new W2 68 (lineX (w.heap.size + 1) (w.heap.size + 1 + 1)).cells
  have b3 := b2.alloc b2.size (.cells (lineX (w.heap.size + 1) (w.heap.size + 1 + 1)).cells.toArray 68)
  replace q0 := q0.alloc (.cells (lineX (w.heap.size + 1) (w.heap.size + 1 + 1)).cells.toArray 68)
  replace q1 := q1.alloc (.cells (lineX (w.heap.size + 1) (w.heap.size + 1 + 1)).cells.toArray 68)
  replace q2 := q2.alloc (.cells (lineX (w.heap.size + 1) (w.heap.size + 1 + 1)).cells.toArray 68)
  refine bodyPost_ret (results_cell_row rfl _ _ w.heap.size 24 _ (0, 0) _ rfl q0 Tryz.underlying24 rfl infoTT) rfl ⟨_, w.heap.size + 1, w.heap.size + 1 + 1, rfl, ⟨?_, fun i hi => ?_⟩, b3⟩
  · rw [z2] at q3
    exact (show Row _ _ _ ([lineX (w.heap.size + 1) (w.heap.size + 1 + 1)].flatMap Lx.cells) from q3).sl (fun _ => rfl) (by simp) q3.lt
  · obtain rfl : i = 0 := by simp at hi; omega
    refine ⟨rowI [0, 1, 3] q1 (by decide), rowI [1, 1] q2 (by decide), SlG.nil_ _ _, SlG.nil_ _ _⟩
theorem ret_lnext (tmps : Array Value) (W : World) (g : Nat) (cs : List Value) (E : Int) (hl : cs.length = 39) (h4 : tmps[4]?.getD undef = .pointer (some ⟨g, 0, none⟩)) (h5 : tmps[5]?.getD undef = .int .i64 E) (hr : Row W g 38 cs) :
    (results Tryz.f33 tmps).run Tryz.prog W = .ok (.tuple #[.agg cs.toArray, .int .i64 E]) W := by
  have hinf : (Tryz.prog.info? 38).map (·.size) = some 39 := by kernel_rfl
  have h := run_loadVar_row (P := Tryz.prog) W g 38 38 cs.toArray (0, 0) _ hr Tryz.underlying38 rfl (by rw [hinf]; simp [hl])
  simp [results, Tryz.f33, h4, h5, asAddr, h]
set_option maxRecDepth 100000 in
set_option maxHeartbeats 4000000 in
theorem lnext_any (kind b : Int) (x : Fw) (E : Int) (hx : ∀ p q, nextR [lineX p q] 4 [4] 5 [entryE 0 kind 0 b] 1 0 (aliasN 5 0 0) 0 0 9 = (x, E)) (hl : x.ds.length = 32) (w : World) (hT : TabOK w) :
    Calls Tryz.prog 33 #[.int .i64 kind, .int .i64 b] w fun e w' => e = .returned (fwV x E) ∧ Below w.heap.size w w' := by
  have c1 := fun (W : World) (hb : Below w.heap.size w W) => alias_any 5 0 0 W (hT.below hb)
  rw [show aliasA 5 0 0 = aliasN 5 0 0 from by unfold aliasA; exact if_pos (by decide), show ckE 5 0 (idP 0) = 0 from by decide] at c1
  have c2 := fun (p q : Nat) (v kv ev : Value) (W : World) (hb : Below w.heap.size w W) (h1 : SlX W W.heap.size v [lineX p q]) (h2 : SlI W W.heap.size kv [4]) (h3 : SlE W W.heap.size ev [entryE 0 kind 0 b]) => next_any [lineX p q] 4 v [4] kv 5 [entryE 0 kind 0 b] ev 1 0 (aliasN 5 0 0) 0 0 9 W (hT.below hb) h1 h2 h3
  simp only [hx] at c2
  have c3 := fun W => entry_any 0 kind 0 b W
  unfold entryE En.val at c3
  obtain ⟨AN, hAN⟩ : ∃ y, aliasN 5 0 0 = y := ⟨_, rfl⟩
  rw [hAN] at c1
  simp only [hAN] at c2
  have hFL := Fw.len hl
  have hone := Fw.one x
  have hinf : (Tryz.prog.info? 38).map (·.size) = some x.cells.toArray.size := by rw [List.size_toArray, hFL]; kernel_rfl
  have hsz : zeroF.cells.toArray.size = x.cells.toArray.size := by rw [List.size_toArray, List.size_toArray, hFL]; rfl
  have h1 := all_oneCell_toArray hone
  have r0 := Row.new w 38 zeroF.cells
  have hB := below_alloc' w (.cells zeroF.cells.toArray 38)
  have C1 := Lib.hid c1
  have C2 := Lib.hid c2
  have C3 := Lib.hid c3
  have HF := Lib.hid hFL
  have HI := Lib.hid hinf
  have HS := Lib.hid hsz
  have H1 := Lib.hid h1
  clear c1 c2 c3 hx hAN hFL hone hinf hsz h1 hl hT
  go_enter Tryz.func33, Tryz.ntmps33
  go_upto_region 1 with fail
  obtain ⟨W, hW⟩ : ∃ W, w.alloc (.cells zeroF.cells.toArray 38) = W := ⟨_, rfl⟩
  rw [hW] at hB r0
  refine (show _ = W from hW) ▸ ?_
  clear hW
  go_wp2_with (first
    | (go_at_call 13; (with_reducible refine (C1.out _ hB).mono ?_); rintro e w1 ⟨rfl, hb⟩; replace r0 := r0.below hb r0.lt; replace hB := hB.trans (hb.mono hB.size); clear hb)
    | (go_at_call 34; (with_reducible refine (table_any _).mono ?_); rintro e w2 ⟨v, p, q, rfl, hv, hb⟩; replace r0 := r0.below hb r0.lt; replace hB := hB.trans (hb.mono hB.size);
        have hkv := sl_newI w2 [4] #[.int .i64 4] rfl (by simp) 1 rfl; have hbn := below_alloc' w2 (.cells #[.int .i64 4] 3); replace hv := hv.below hbn; replace r0 := r0.alloc (.cells #[.int .i64 4] 3); replace hB := hB.trans (hbn.mono hB.size); clear hb hbn)
    | (go_at_call 82; (with_reducible refine (C3.out _).mono ?_); rintro e w4 ⟨rfl, hb⟩; replace r0 := r0.below hb r0.lt; replace hB := hB.trans (hb.mono hB.size); replace hv := hv.below hb; replace hkv := (hkv.below hb).mono hb.size;
        have he := sl_newE w4 [entryE 0 kind 0 b] #[.int .i64 0, .int .i64 kind, .int .i64 0, .int .i64 b, .int .i64 0, .int .i64 2097152, .int .i64 0, .int .i64 2097152] rfl (by simp) 1 rfl; have hbn := below_alloc' w4 (.cells #[.int .i64 0, .int .i64 kind, .int .i64 0, .int .i64 b, .int .i64 0, .int .i64 2097152, .int .i64 0, .int .i64 2097152] 49);
        replace hv := hv.below hbn; replace hkv := (hkv.below hbn).mono hbn.size; replace r0 := r0.alloc (.cells #[.int .i64 0, .int .i64 kind, .int .i64 0, .int .i64 b, .int .i64 0, .int .i64 2097152, .int .i64 0, .int .i64 2097152] 49); replace hB := hB.trans (hbn.mono hB.size); clear hb hbn)
    | (go_at_call 11; (with_reducible refine (C2.out _ _ _ _ _ _ hB hv hkv he).mono ?_); rintro e w6 ⟨rfl, hb⟩; replace r0 := r0.below hb r0.lt; replace hB := hB.trans (hb.mono hB.size); clear hb hv hkv he)
    | (refine wpList_store_row rfl 38 _ _ rfl w.heap.size x.cells.toArray rfl rfl 38 zeroF.cells.toArray r0 HI.out HS.out H1.out ?_; replace r0 := Row.part r0 x.cells; replace hB := below_setRow hB (Nat.le_refl w.heap.size) x.cells.toArray; generalize World.setRow _ w.heap.size x.cells.toArray = W7 at *))
  exact bodyPost_ret (ret_lnext _ _ _ _ _ HF.out rfl rfl r0) rfl ⟨rfl, hB⟩
end Go.Proofs.YthckledagggoiaaGreatDoor
