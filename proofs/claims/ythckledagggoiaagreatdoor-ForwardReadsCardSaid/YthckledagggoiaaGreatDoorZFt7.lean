import Derived.Test.YthckledagggoiaaGreatDoorZPj
import Derived.Test.YthckledagggoiaaGreatDoorZFt6
import Derived.Deep.LoopGhost
import Derived.Deep.MidRow
import Derived.Deep.Cut
set_option linter.unusedSimpArgs false
set_option linter.unusedVariables false
namespace Go.Proofs.YthckledagggoiaaGreatDoor
open Go.RowKit Go.Shelf Fk Sha
/-! onetime: return addresses. -/
set_option maxRecDepth 100000 in
set_option maxHeartbeats 4000000 in
theorem otext_any (l : List Int) (v : Value) (w : World) (h : SlI w w.heap.size v l) (hs : smallI l) (hp : 1 ≤ l.length) (hl : l.length ≤ 1000) :
    Calls Tryz.prog 116 #[v] w fun e w' => ∃ v', e = .returned v' ∧ ownB w' v' (encL l) ∧ Below w.heap.size w w' := by
  obtain ⟨i0, hi, hz0, hz1, hz2⟩ := info_parts infoV4
  have HS := Lib.hid h
  have HN := Lib.hid hs
  obtain ⟨_, A, c, rfl, _⟩ := h
  clear hs
  have hB0 := below_alloc' w (.cells #[.int .i64 3, .int .i64 0, .string ⟨#[]⟩, .slice none 0 0] 173)
  have r0 := Row.new w 173 [.int .i64 3, .int .i64 0, .string ⟨#[]⟩, .slice none 0 0]
  have hz : w.heap.size + 1 ≤ (w.alloc (.cells #[.int .i64 3, .int .i64 0, .string ⟨#[]⟩, .slice none 0 0] 173)).heap.size := by simp
  go_enter Tryz.func116, Tryz.ntmps116
  go_wp2_with fail
  go_loopg [11] l.length (fun gh iv wr => ∃ (k : Nat) (x : Value), iv = .int .i64 k ∧ k + gh = l.length ∧ Below w.heap.size w wr ∧ w.heap.size + 1 ≤ wr.heap.size ∧ Row wr w.heap.size 173 [.int .i64 3, .int .i64 0, .string ⟨#[]⟩, x] ∧ wr.ownsRow (w.heap.size + 1) 173 4 x k ((l.take k).flatMap encV))
  case atStart => exact ⟨0, _, rfl, by omega, hB0, hz, r0, World.ownsRow_nil _ _ _ _⟩
  case round =>
    clear hB0 r0 hz
    obtain ⟨k, x, rfl, hkg, hBr, hz, hrow, hown⟩ := hrel
    obtain ⟨k0, k1, k2, k3⟩ := st4 hrow
    have y3 := Row.frozen hrow 3
    have hzz := hrow.lt
    by_cases hlt : k < l.length
    · obtain ⟨_, A', c', hv, hE⟩ := HS.out.below hBr
      obtain ⟨b, off, rfl, hbb, hE⟩ := hE (by omega)
      cases hv
      have d1 := hE.int hlt
      have hsn := take_flatV hlt
      obtain ⟨n, hn⟩ : ∃ n, l.getD k default = n := ⟨_, rfl⟩
      rw [hn] at d1 hsn
      have HSN := Lib.hid hsn
      have s1 : (0 : Int) ≤ k := by omega
      have s2 : (k : Int) < l.length := by omega
      clear hn hsn hE
      go_wp2_with (at_builtin; refine wpList_append_lies _ rfl _ _ 171 rfl (w.heap.size + 1) 173 i0 (.agg #[.int .i64 0, .int .i64 0, .string ⟨#[]⟩, .slice none 0 0]) 4 56 Tryz.underlying171 hi hz0 hz1 hz2 rfl (by decide) _ _ _ rfl (hown.alloc _) ⟨wr.heap.size, 0, none⟩ 1 1 [.int .i64 1, .int .i64 n, .string ⟨#[]⟩, .slice none 0 0] rfl rfl (cell_four _ _ _ _ _ _) (by simp [Value.oneCell']) (by decide) (by unfold maxLen; omega) (by omega) (by simp; omega) _ rfl ?_; intro g cap w2 hown2 hgrow hat hlt2; have hown1 := hown; have hrow2 : Row w2 w.heap.size 173 [.int .i64 3, .int .i64 0, .string ⟨#[]⟩, x] := Row.keep (hrow.alloc _) (hgrow.block _ (by simp; omega) (fun e => by have := (hown1.lt _ e.symm).1; omega)); clear k0 k1 k2 k3 y3; obtain ⟨k0, k1, k2, k3⟩ := st4 hrow2; have y3 := Row.frozen hrow2 3; have hzz2 := hrow2.lt)
      go_roundg (gk - 1)
      case measure => omega
      case rel =>
        refine ⟨k + 1, .slice (some ⟨g, 0, none⟩) (k + 1) cap, by first | rfl | go_num, by omega, ?_, ?_, Row.store hrow2 3 _, ?_⟩
        · exact (((hBr.alloc hBr.size _).grown hgrow (by simp; omega) (fun r e => by have := (hown1.lt _ e).1; omega))).setCell (p := ⟨w.heap.size, 3, none⟩) (Nat.le_refl _) _
        · simp [World.setCell]; omega
        · rw [HSN.out]
          exact hown2.kept (row := some w.heap.size) ⟨rfl, rfl, rfl, by simp [World.setCell], fun j _ hn => Below.heap_setCell _ _ _ j (fun e => hn (by rw [e]))⟩ (.inr (fun e => by have := (hown2.lt _ e).1; omega))
    · obtain rfl : k = l.length := by omega
      rw [List.take_length] at hown
      have hV : SlV wr wr.heap.size x l := own_slG hown (fun _ => rfl) rfl (by omega)
      obtain ⟨_, A2, c2, rfl, _⟩ := id hV
      have he := encode_list l A2 c2 wr hV HN.out hp hl
      have HE := Lib.hid he
      clear he hV hown
      go_wp2_with (go_at_call 142; (with_reducible refine HE.out.mono ?_); rintro e w3 ⟨v', rfl, ho, hb3⟩)
      go_ret
      exact ⟨v', rfl, ho, hBr.trans (hb3.mono hBr.size)⟩

def timesC (a b n : Int) : Int := mulC a (powC b n)
set_option maxRecDepth 100000 in
set_option maxHeartbeats 2000000 in
theorem times_any (a b n : Int) (w : World) :
    Calls Tryz.prog 118 #[.int .i64 a, .int .i64 b, .int .i64 n] w fun e w' => e = .returned (.int .i64 (timesC a b n)) ∧ Below w.heap.size w w' := by
  have h1 := pow_any b n w
  have h2 := fun W => mul_any a (powC b n) W
  have ht : timesC a b n = mulC a (powC b n) := rfl
  rw [ht]
  obtain ⟨p, hp⟩ : ∃ p, powC b n = p := ⟨_, rfl⟩
  rw [hp] at h1 h2 ⊢
  obtain ⟨m, hm⟩ : ∃ m, mulC a p = m := ⟨_, rfl⟩
  obtain ⟨e1, he1⟩ : ∃ m, mulE a p = m := ⟨_, rfl⟩
  obtain ⟨e2, he2⟩ : ∃ m, powE b = m := ⟨_, rfl⟩
  rw [hm, he1] at h2
  rw [hm]
  rw [he2] at h1
  have H1 := Lib.hid h1
  have H2 := Lib.hid h2
  clear h1 h2 ht hp hm he1 he2
  go_enter Tryz.func118, Tryz.ntmps118
  go_wp2_with (first
    | (go_at_call 105; (with_reducible refine H1.out.mono ?_); rintro e w1 ⟨rfl, hb⟩)
    | (go_at_call 114; (with_reducible refine (H2.out _).mono ?_); rintro e w2 ⟨rfl, rfl⟩))
  go_ret
  exact ⟨rfl, hb⟩
theorem Row.part {w : World} {g : Nat} {t : TypeId} {vs : List Value} (h : Row w g t vs) (cs : List Value) : Row (w.setRow g cs.toArray) g t cs := setRow_heap w _ _ _ _ _ h
abbrev zero32 : List Value := List.replicate 32 (Value.int .u8 0)
theorem ret_cell2 (tmps : Array Value) (W : World) (g : Nat) (a b : Int) (h6 : tmps[6]?.getD undef = .pointer (some ⟨g, 0, none⟩)) (hr : Row W g 32 [.int .i64 a, .int .i64 b]) :
    (results Tryz.f63 tmps).run Tryz.prog W = .ok (.agg #[.int .i64 a, .int .i64 b]) W :=
  results_cell_row (g := g) (t := 32) (fr := (0, 0)) rfl _ W _ _ (by simpa using h6) hr Tryz.underlying32 rfl (by kernel_rfl)
set_option maxRecDepth 100000 in
set_option maxHeartbeats 4000000 in
theorem seal_any (key ca cb r : Int) (w : World) :
    Calls Tryz.prog 63 #[.int .i64 key, .agg #[.int .i64 ca, .int .i64 cb], .int .i64 r] w fun e w' => e = .returned (.agg #[.int .i64 (timesC ca 4 r), .int .i64 (timesC cb key r)]) ∧ Below w.heap.size w w' := by
  have h1 := fun W => times_any ca 4 r W
  have h2 := fun W => times_any cb key r W
  have H1 := Lib.hid h1
  have H2 := Lib.hid h2
  clear h1 h2
  have r0 := (Row.new w 32 [.int .i64 ca, .int .i64 cb]).alloc (.cells #[.int .i64 0, .int .i64 0] 32)
  have r1 := Row.new (w.alloc (.cells #[.int .i64 ca, .int .i64 cb] 32)) 32 [.int .i64 0, .int .i64 0]
  rw [World.size_alloc] at r1
  have hB := (below_alloc' w (.cells #[.int .i64 ca, .int .i64 cb] 32)).alloc (by simp) (.cells #[.int .i64 0, .int .i64 0] 32)
  go_enter Tryz.func63, Tryz.ntmps63
  go_upto_region 1 with fail
  obtain ⟨W, hW⟩ : ∃ W, (w.alloc (.cells #[.int .i64 ca, .int .i64 cb] 32)).alloc (.cells #[.int .i64 0, .int .i64 0] 32) = W := ⟨_, rfl⟩
  replace r0 : Row W w.heap.size 32 [.int .i64 ca, .int .i64 cb] := hW ▸ r0
  replace r1 : Row W (w.heap.size + 1) 32 [.int .i64 0, .int .i64 0] := hW ▸ r1
  rw [hW] at hB ⊢
  clear hW
  obtain ⟨k0, k1⟩ := st2c r0
  have hlo := r0.lt
  refine wp_region_det 10 (fun w0 => Below W.heap.size W w0) (by kernel_rfl) (by kernel_rfl) (Below.refl _ _).drew ?_
  refine wpDet_take (v := .pointer (some ⟨w.heap.size, 0, none⟩)) rfl (by kernel_rfl) (fun w0 hSw => ?_) ?_
  · skip
    go_simp
  simp only [Act.put, List.getElem_toArray, List.getElem_cons_succ, List.getElem_cons_zero, List.setIfInBounds_toArray, List.set_cons_zero, List.set_cons_succ]
  refine wpDet_take (v := .int .i64 ca) rfl (by kernel_rfl) (fun w0 hSw => ?_) ?_
  · have c0 := (hSw.cell (p := ⟨w.heap.size, 0, none⟩) hlo).trans k0
    go_simp
  simp only [Act.put, List.getElem_toArray, List.getElem_cons_succ, List.getElem_cons_zero, List.setIfInBounds_toArray, List.set_cons_zero, List.set_cons_succ]
  refine wpDet_take (v := ?_) rfl (by kernel_rfl) (fun w0 hSw => ?_) ?_
  rotate_left 1
  · skip
    go_simp
    with_reducible rfl
  simp only [Act.put, List.getElem_toArray, List.getElem_cons_succ, List.getElem_cons_zero, List.setIfInBounds_toArray, List.set_cons_zero, List.set_cons_succ]
  refine wpDet_call (v := .int .i64 (timesC ca 4 r)) rfl (by kernel_rfl) (fun w0 hSw K hK => ?_) ?_
  · go_simp
    go_at_call 118
    refine (H1.out _).mono ?_
    rintro e w9 ⟨rfl, hb⟩
    exact hK _ (hSw.trans (hb.mono hSw.size))
  simp only [Act.put, List.getElem_toArray, List.getElem_cons_succ, List.getElem_cons_zero, List.setIfInBounds_toArray, List.set_cons_zero, List.set_cons_succ]
  refine wpDet_take (v := .pointer (some ⟨w.heap.size, 1, none⟩)) rfl (by kernel_rfl) (fun w0 hSw => ?_) ?_
  · skip
    go_simp
  simp only [Act.put, List.getElem_toArray, List.getElem_cons_succ, List.getElem_cons_zero, List.setIfInBounds_toArray, List.set_cons_zero, List.set_cons_succ]
  refine wpDet_take (v := .int .i64 cb) rfl (by kernel_rfl) (fun w0 hSw => ?_) ?_
  · have c1 := (hSw.cell (p := ⟨w.heap.size, 1, none⟩) hlo).trans k1
    go_simp
  simp only [Act.put, List.getElem_toArray, List.getElem_cons_succ, List.getElem_cons_zero, List.setIfInBounds_toArray, List.set_cons_zero, List.set_cons_succ]
  refine wpDet_take (v := ?_) rfl (by kernel_rfl) (fun w0 hSw => ?_) ?_
  rotate_left 1
  · skip
    go_simp
    with_reducible rfl
  simp only [Act.put, List.getElem_toArray, List.getElem_cons_succ, List.getElem_cons_zero, List.setIfInBounds_toArray, List.set_cons_zero, List.set_cons_succ]
  refine wpDet_take (v := ?_) rfl (by kernel_rfl) (fun w0 hSw => ?_) ?_
  rotate_left 1
  · skip
    go_simp
    with_reducible rfl
  simp only [Act.put, List.getElem_toArray, List.getElem_cons_succ, List.getElem_cons_zero, List.setIfInBounds_toArray, List.set_cons_zero, List.set_cons_succ]
  refine wpDet_call (v := .int .i64 (timesC cb key r)) rfl (by kernel_rfl) (fun w0 hSw K hK => ?_) ?_
  · go_simp
    go_at_call 118
    refine (H2.out _).mono ?_
    rintro e w9 ⟨rfl, hb⟩
    exact hK _ (hSw.trans (hb.mono hSw.size))
  simp only [Act.put, List.getElem_toArray, List.getElem_cons_succ, List.getElem_cons_zero, List.setIfInBounds_toArray, List.set_cons_zero, List.set_cons_succ]
  refine wpDet_take (v := .agg #[.int .i64 (timesC ca 4 r), .int .i64 (timesC cb key r)]) rfl (by kernel_rfl) (fun w0 hSw => ?_) ?_
  · skip
    go_simp
  simp only [Act.put, List.getElem_toArray, List.getElem_cons_succ, List.getElem_cons_zero, List.setIfInBounds_toArray, List.set_cons_zero, List.set_cons_succ]
  refine wpDet_done (fun V hV => ?_)
  have r2 := r1.below hV r1.lt
  have hBV := hB.trans (hV.mono hB.size)
  have y0 := Row.frozen r2 0
  have y1 := Row.frozen r2 1
  obtain ⟨c0, c1⟩ := st2c r2
  have hzz := r2.lt
  clear r0 k0 k1 hV hB H1 H2 hlo r1
  obtain ⟨x, hx⟩ : ∃ x, timesC ca 4 r = x := ⟨_, rfl⟩
  obtain ⟨y, hy⟩ : ∃ x, timesC cb key r = x := ⟨_, rfl⟩
  rw [hx, hy]
  have HX := Lib.hid hx
  have HY := Lib.hid hy
  clear hx hy
  have hr3 := (r2.store 0 (.int .i64 x)).store 1 (.int .i64 y)
  have hB3 := (hBV.setCell (p := ⟨w.heap.size + 1, 0, none⟩) (by simp) (.int .i64 x)).setCell (p := ⟨w.heap.size + 1, 1, none⟩) (by simp) (.int .i64 y)
  have HR := Lib.hid hr3
  have HB := Lib.hid hB3
  clear hr3 hB3 hBV r2
  go_wp2_with fail
  exact bodyPost_ret (ret_cell2 _ _ _ _ _ rfl HR.out) rfl ⟨by rw [HX.out, HY.out], HB.out⟩
/-! the tag -/
abbrev returnB : ByteArray := ⟨#[114, 101, 116, 117, 114, 110]⟩
def tagN (line key a b : Int) : List B := tagged (sb returnB) (encL [line, key, a, b])
theorem tagN_len (line key a b : Int) : (tagN line key a b).length = 32 := tagged_length _ _
theorem small4 {a b c d : Int} (ha : 0 ≤ a ∧ a < 4611686018427387904) (hb : 0 ≤ b ∧ b < 4611686018427387904) (hc : 0 ≤ c ∧ c < 4611686018427387904) (hd : 0 ≤ d ∧ d < 4611686018427387904) : smallI [a, b, c, d] := by
  intro i hi
  simp at hi
  rcases (show i = 0 ∨ i = 1 ∨ i = 2 ∨ i = 3 by omega) with rfl | rfl | rfl | rfl
  · exact ha
  · exact hb
  · exact hc
  · exact hd
def retC (line key a b : Int) (ds : List Value) : List Value := [.int .i64 line, .int .i64 key, .int .i64 a, .int .i64 b] ++ ds
theorem retC_len {line key a b : Int} {ds : List Value} (h : ds.length = 32) : (retC line key a b ds).length = 36 := by unfold retC; rw [List.length_append, h]; rfl
set_option maxRecDepth 100000 in
set_option maxHeartbeats 4000000 in
theorem tag_any (line key a b : Int) (hs : smallI [line, key, a, b]) (ds : List Value) (hd : ds.length = 32) (w : World) (hT : TabOK w) :
    Calls Tryz.prog 60 #[.agg (retC line key a b ds).toArray] w fun e w' => e = .returned (.agg ((tagN line key a b).map bv).toArray) ∧ Below w.heap.size w w' := by
  have r0 := (Row.new w 36 (retC line key a b ds)).alloc (.cells zero32.toArray 34)
  have r1 := Row.new (w.alloc (.cells (retC line key a b ds).toArray 36)) 34 zero32
  rw [World.size_alloc] at r1
  have hB := (below_alloc' w (.cells (retC line key a b ds).toArray 36)).alloc (by simp) (.cells zero32.toArray 34)
  have hlen36 := retC_len (line := line) (key := key) (a := a) (b := b) hd
  have g0 : (retC line key a b ds)[0]? = some (.int .i64 line) := rfl
  have g1 : (retC line key a b ds)[1]? = some (.int .i64 key) := rfl
  have g2 : (retC line key a b ds)[2]? = some (.int .i64 a) := rfl
  have g3 : (retC line key a b ds)[3]? = some (.int .i64 b) := rfl
  obtain ⟨RC, hRC⟩ : ∃ RC, retC line key a b ds = RC := ⟨_, rfl⟩
  rw [hRC] at r0 r1 hB hlen36 g0 g1 g2 g3 ⊢
  have hlr : RC.toArray.size = 36 := by simpa using hlen36
  clear hRC hd
  go_enter Tryz.func60, Tryz.ntmps60
  go_upto_region 1 with fail
  obtain ⟨W, hW⟩ : ∃ W, (w.alloc (.cells RC.toArray 36)).alloc (.cells zero32.toArray 34) = W := ⟨_, rfl⟩
  replace r0 : Row W w.heap.size 36 RC := hW ▸ r0
  replace r1 : Row W (w.heap.size + 1) 34 zero32 := hW ▸ r1
  rw [hW] at hB
  refine (show _ = W from hW) ▸ ?_
  clear hW
  have k0 := (r0.cell 0).trans g0
  have k1 := (r0.cell 1).trans g1
  have k2 := (r0.cell 2).trans g2
  have k3 := (r0.cell 3).trans g3
  have hsl := sl_newI W [line, key, a, b] #[.int .i64 line, .int .i64 key, .int .i64 a, .int .i64 b] rfl (by simp) 4 rfl
  have ht := otext_any [line, key, a, b] _ _ hsl hs (by simp) (by simp)
  have hB1 := hB.alloc hB.size (.cells #[.int .i64 line, .int .i64 key, .int .i64 a, .int .i64 b] 3)
  have r2 := r1.alloc (.cells #[.int .i64 line, .int .i64 key, .int .i64 a, .int .i64 b] 3)
  have hlen := encL_len hs (by simp)
  have hL2 := tagN_len line key a b
  have hc : tagN line key a b = tagged (sb returnB) (encL [line, key, a, b]) := rfl
  obtain ⟨L, hL⟩ : ∃ L, encL [line, key, a, b] = L := ⟨_, rfl⟩
  rw [hL] at ht hlen hc
  obtain ⟨D, hD⟩ : ∃ D, tagN line key a b = D := ⟨_, rfl⟩
  rw [hD] at hc hL2
  have hh := fun v W h1 h2 h3 => tagged_any ⟨#[114, 101, 116, 117, 114, 110]⟩ L v W h1 h2 (by omega) (by decide) (TabOK.below hT h3).1 (TabOK.below hT h3).2
  rw [← hc] at hh
  have HT := Lib.hid ht
  have HH := Lib.hid hh
  have HL := Lib.hid hlen
  have HL2 := Lib.hid hL2
  have HD := Lib.hid hD
  clear ht hh hlen hL2 hc hL hD hs hT r0 g0 g1 g2 g3 hlen36 hlr hsl r1 hB
  go_wp2_with (first
    | (go_at_call 116; (with_reducible refine HT.out.mono ?_); rintro e w1 ⟨v1, rfl, ho, hb⟩; have hB2 := hB1.trans (hb.mono hB1.size); have r3 := r2.below hb r2.lt; obtain ⟨q1, q2⟩ := own_slB ho rfl (by have := HL.out; omega); clear hB1 r2 k0 k1 k2 k3 hb ho)
    | (go_at_call 115; (with_reducible refine (HH.out _ _ q1 q2 hB2).mono ?_); rintro e w2 ⟨rfl, hb2⟩; have r4 := r3.below hb2 r3.lt; have hB3 := hB2.trans (hb2.mono hB2.size); have hst := store_old D HL2.out r4; have hR6 : Row (w2.setRow (w.heap.size + 1) (D.map bv).toArray) (w.heap.size + 1) 34 (D.map bv) := setRow_heap w2 _ _ _ _ _ r4; have hB7 := below_setRow hB3 (Nat.le_succ w.heap.size) (D.map bv).toArray; generalize w2.setRow (w.heap.size + 1) (D.map bv).toArray = W7 at *; have HR6 := Lib.hid hR6; have HB6 := Lib.hid hB7; clear hR6 hB7 r3 r4 hB3 hB2 hb2))
  have hinf : (Tryz.prog.info? 34).map (·.size) = some 32 := by kernel_rfl
  exact bodyPost_ret (v := .agg (D.map bv).toArray) (results_cell_row (g := w.heap.size + 1) (t := 34) (fr := (0, 0)) rfl _ _ _ _ rfl HR6.out Tryz.underlying34 rfl (by rw [hinf]; simp [HL2.out])) rfl ⟨by rw [HD.out], HB6.out⟩
end Go.Proofs.YthckledagggoiaaGreatDoor
