import Derived.Test.YtaheibbbdglcmaaDoorPkf
set_option linter.unusedSimpArgs false
set_option linter.unusedVariables false
namespace Go.Proofs.YtaheibbbdglcmaaDoor
open Go.RowKit Go.Shelf Fk Sha
attribute [local go_sem] Oper.semAt_some
attribute [local go_sem] wide_fn
theorem wpOrd_skip_last {P : Program} {ops : Array Oper} {Q : Exit → Act → World → Prop} {S : World → Prop} {tl : List Oper} {k : Nat} {o : Oper} {a : Act} {w : World} (ho : ops[k]? = some o) (hw : Region.wanted o (yielded ops a.tmps) = false)
    (h : ∀ a', a' = a.put o.dst undef → wpList P ops Q tl a' w) : wpOrd P ops Q S tl [(1, k)] a w :=
  wpOrd_skip ho hw (wpOrd_nil (h _ rfl))
set_option maxRecDepth 100000 in
set_option maxHeartbeats 8000000 in
theorem cb_main (key : Int) (l x : List Se) (ps : List Pt) (A1 A2 A3 : Option Addr) (c1 c2 c3 : Nat) (w : World) (hT : TabOK w) (hl : SlS w w.heap.size (.slice A1 l.length c1) l) (hx : SlS w w.heap.size (.slice A2 l.length c2) x) (hp : SlP w w.heap.size (.slice A3 l.length c3) ps)
    (hv : vld key = true) (h1 : l.length = x.length) (h2 : l.length = ps.length) (h3 : letE l = 0) (h4 : letE x = 0) :
    Calls Tryd.prog 28 #[.int .i64 key, .slice A1 l.length c1, .slice A2 l.length c2, .slice A3 l.length c3] w fun e w' => e = .returned (.bool ((List.range (3 * l.length)).all (plOK key l x ps))) ∧ Below w.heap.size w w' := by
  have m1 := fun w => valid_any key w
  have m2 := fun W (hb : Below w.heap.size w W) => letters_any l _ W ((hl.below hb).mono hb.size)
  have m3 := fun W (hb : Below w.heap.size w W) => letters_any x _ W ((hx.below hb).mono hb.size)
  rw [hv] at m1
  rw [h3] at m2
  rw [h4] at m3
  have M1 := Lib.hid m1
  have M2 := Lib.hid m2
  have M3 := Lib.hid m3
  obtain ⟨W, hW, hB, hz, r4, r6, r7, r⟩ := made4 w [.int .i64 key] [.slice A2 l.length c2] [.slice A3 l.length c3] [.bool false] 3 46 47 4
  have hC : CB w key (.slice A2 l.length c2) (.slice A3 l.length c3) W := ⟨hB, r4, r6, r7, r⟩
  have HL := Lib.hid hl
  have HX := Lib.hid hx
  have HP := Lib.hid hp
  have HT := Lib.hid hT
  have H1 := Lib.hid h1
  have H2 := Lib.hid h2
  have H3 := Lib.hid h3
  have H4 := Lib.hid h4
  have HV := Lib.hid hv
  have q1 : ((l.length : Int) != l.length) = false := by simp
  have k4 := st1c r4
  have k6 := st1c r6
  have k7 := st1c r7
  have k8 := st1c r
  clear m1 m2 m3 hl hx hp hT h1 h2 h3 h4 hv r4 r6 r7 r
  refine (callsIn_wide (n := 3)).1 ?_
  refine callsIn_of_wp_marks Tryd.func28 rfl trivial ?_ rfl
  simp only [Tryd.ntmps28, List.size_toArray, List.length_cons, List.length_nil, Nat.reduceAdd, Nat.reduceSub, Array.replicate_succ, Array.replicate_zero, List.push_toArray, List.append_toArray, List.nil_append, List.cons_append]
  gi_wp2_with (first
    | (gi_at_call 37; refine (callsIn_wide.2 (M1.out _)).mono ?_; rintro e w1 ⟨rfl, rfl⟩)
    | (gi_at_call 56; with_reducible refine (callsIn_wide.2 (M2.out _ hB)).mono ?_; rintro e w2 ⟨rfl, hb⟩; replace hB := hB.trans (hb.mono hB.size); replace hC := hC.below hb; clear hb k4 k6 k7 k8; have k4 := st1c hC.r4; have k6 := st1c hC.r6; have k7 := st1c hC.r7; have k8 := st1c hC.r8)
    | (gi_at_call 56; with_reducible refine (callsIn_wide.2 (M3.out _ hB)).mono ?_; rintro e w3 ⟨rfl, hb⟩; replace hB := hB.trans (hb.mono hB.size); replace hC := hC.below hb; clear hb k4 k6 k7 k8; have k4 := st1c hC.r4; have k6 := st1c hC.r6; have k7 := st1c hC.r7; have k8 := st1c hC.r8)
    | (gi_at_call 57; refine (callsIn_wide.2 (eciphers_any _ _ _ _)).mono ?_; rintro e w4 ⟨rfl, rfl⟩))
  clear k4 k6 k7 k8
  have hC0 := hC.below (below_alloc' w3 (.cells #[.slice A1 l.length c1] 46))
  have hbx := row_size rfl 46 [Value.slice A1 l.length c1] (w := w3)
  have hz3 : w.heap.size + 4 ≤ w3.heap.size := by have := hC.r8.lt; omega
  have hz0 : (w3.alloc (.cells #[.slice A1 l.length c1] 46)).heap.size = w3.heap.size + 1 := by simp
  obtain ⟨W0, hW0⟩ : ∃ W0, w3.alloc (.cells #[.slice A1 l.length c1] 46) = W0 := ⟨_, rfl⟩
  replace hbx : Row W0 w3.heap.size 46 [.slice A1 l.length c1] := hW0 ▸ hbx
  rw [hW0] at hC0 hz0 ⊢
  clear hW0 hC
  generalize w3.heap.size = bc at *
  have hyl : ∀ r, yB l A1 r → r < w.heap.size := by
    rintro r ⟨hp, o, ho⟩
    obtain ⟨_, A', c', hv, hE⟩ := HL.out
    obtain ⟨b, off, rfl, hb, _⟩ := hE hp
    injection hv with hv _ _
    rw [hv] at ho
    injection ho with ho
    injection ho with ho _ _
    omega
  have HYL := Lib.hid hyl
  clear hyl
  refine wpIn_rangeL (w := W0) rfl (by omega) (gf := 78) (lb := #[.pointer (some ⟨bc, 0, none⟩)]) rfl trivial (enters_of Tryd.func78 (by kernel_rfl) rfl)
    (places_seq l A1 c1 bc w.heap.size _ (by omega) 2 (by omega))
    (fun W hW => ⟨Row.keep hbx (hW.block _ (by omega)), (HL.out.below hC0.b).below (hW.mono (by omega))⟩) (fun h => ?hY) (fun h => h) (fun h => h)
    (fun v hv => by obtain ⟨p, _, rfl⟩ := List.mem_map.1 hv; rfl)
    (fun k W => CB w key (.slice A2 l.length c2) (.slice A3 l.length c3) W ∧ ∀ j, j < k → plOK key l x ps j = true)
    (fun c _ W => c = .ret ∧ (List.range (3 * l.length)).all (plOK key l x ps) = false ∧ Row W (w.heap.size + 1 + 1 + 1) 4 [.bool false] ∧ Below w.heap.size w W)
    (fun k W W' row ⟨h1, h2⟩ hg hr => ⟨h1.ab hg (fun r e => ((hr r e).resolve_left (fun h => h)).symm) (by omega), h2⟩)
    (fun c k W W' row ⟨h1, h2, h3, h4⟩ hg hr => ⟨h1, h2, h3.keep (hg.block _ h3.lt (fun e => by have := (hr _ e.symm).resolve_left (fun h => h); omega)), h4.grown hg h4.size (fun r e => by have := (hr _ e).resolve_left (fun h => h); omega)⟩)
    ⟨hC0, fun j hj => absurd hj (by omega)⟩
    (fun j a' W => ∃ i k b9 b10 : Nat, j = 3 * i + k ∧ i < l.length ∧ k < 3 ∧ bc + 3 ≤ b9 ∧ bc + 3 ≤ b10 ∧ a' = cbAct key l A1 A2 A3 c1 c2 c3 w bc b9 b10 i k ((l.getD i default).get k) ∧ Row W b9 80 [.int .i64 (i : Int), .int .i64 (k : Int)] ∧ Row W b10 53 [.int .i64 ((l.getD i default).get k).a, .int .i64 ((l.getD i default).get k).b])
    (fun j a' _ W W' row ⟨i, k, b9, b10, e1, e2, e3, e4, e5, e6, e7, e8⟩ hg hr => ⟨i, k, b9, b10, e1, e2, e3, e4, e5, e6, e7.keep (hg.block _ e7.lt (fun e => by have := hr _ e.symm; omega)), e8.keep (hg.block _ e8.lt (fun e => by have := hr _ e.symm; omega))⟩) ?assign ?body ?done ?stop
  case hY =>
    have := HYL.out _ h
    have := hC0.b.size
    omega
  case assign =>
    intro lb j v W K hI hvv hsz hK
    obtain ⟨i, k, hj, hi, hk⟩ : ∃ i k, j = 3 * i + k ∧ i < l.length ∧ k < 3 := by
      have := (List.getElem?_eq_some_iff.1 hvv).1
      rw [plVals_length] at this
      exact ⟨j / 3, j % 3, by omega, by omega, by omega⟩
    subst hj
    rw [plVals_get l hi hk] at hvv
    injection hvv with hvv
    subst hvv
    obtain ⟨c, hc⟩ : ∃ c, (l.getD i default).get k = c := ⟨_, rfl⟩
    have HCC := Lib.hid hc
    rw [hc]
    unfold Ci.val
    clear hc
    have hzW : w.heap.size ≤ W.heap.size := by omega
    have hB2 := ((Below.refl W.heap.size W).alloc (Nat.le_refl _) (.cells #[.int .i64 (i : Int), .int .i64 (k : Int)] 80)).alloc (by simp) (.cells #[.int .i64 c.a, .int .i64 c.b] 53)
    have rp := (Row.new W 80 [.int .i64 (i : Int), .int .i64 (k : Int)]).alloc (.cells #[.int .i64 c.a, .int .i64 c.b] 53)
    have rc : Row ((W.alloc (.cells #[.int .i64 (i : Int), .int .i64 (k : Int)] 80)).alloc (.cells #[.int .i64 c.a, .int .i64 c.b] 53)) (W.heap.size + 1) 53 [.int .i64 c.a, .int .i64 c.b] := row_size (by simp) _ _
    gi_wp2
    refine hK _ _ (Kept.below hB2 (by omega) hB2.size) (SameOn.below hB2 (fun r hr => by have := HYL.out r hr; omega)) ⟨hI.1.below hB2, hI.2⟩ ⟨i, k, W.heap.size, W.heap.size + 1, rfl, hi, hk, by omega, by omega, by rw [HCC.out], rp, by rw [HCC.out]; exact rc⟩
  case body =>
    rintro lb j v a' W ⟨hC, hall⟩ ⟨i, k, b9, b10, rfl, hi, hk, hb9, hb10, rfl, r9, r10⟩ hvv hsz
    clear hvv
    have hplk : plOK key l x ps (3 * i + k) = (decide (((x.getD i default).get k).a = ((l.getD i default).get k).a) && chkB key ((l.getD i default).get k).a (mulC ((l.getD i default).get k).b (powC ((x.getD i default).get k).b (-1))) ((ps.getD i default).get k)) := by
      unfold plOK
      rw [show (3 * i + k) / 3 = i by omega, show (3 * i + k) % 3 = k by omega]
    obtain ⟨bx, ox, cx, hA2, hbx2, hxc⟩ := SlS.at_ HX.out (i := i) (by rw [← H1.out]; exact hi) hk
    obtain ⟨bp, op, cp, hA3, hbp2, hpc⟩ := SlP.at_ HP.out (i := i) (by rw [← H2.out]; exact hi) hk
    injection hA2 with hA2 g1 g2
    injection hA3 with hA3 g3 g4
    subst hA2 hA3
    clear g1 g2 g3 g4
    have hokl := letE_ok HL.out H3.out hi
    obtain ⟨c, hc⟩ : ∃ c, (l.getD i default).get k = c := ⟨_, rfl⟩
    obtain ⟨b, hb⟩ : ∃ b, (x.getD i default).get k = b := ⟨_, rfl⟩
    obtain ⟨p, hp⟩ : ∃ p, (ps.getD i default).get k = p := ⟨_, rfl⟩
    have hvc : vld c.b = true := by rw [← hc]; exact (okC_iff.1 (okS_get hokl k)).2
    rw [hc] at r10 hplk ⊢
    rw [hb] at hxc hplk
    rw [hp] at hpc hplk
    have s1 : (0 : Int) ≤ i := by omega
    have s2 : (i : Int) < l.length := by omega
    have s3 : (0 : Int) ≤ k := by omega
    have s4 : (k : Int) < 3 := by omega
    obtain ⟨x0, x1⟩ := hxc W (hC.b.block _ hbx2)
    have k6 := st1c hC.r6
    obtain ⟨p0, p1⟩ := st2 r9
    have hs6 : ∀ W', Below W.heap.size W W' → W'.cell? ⟨w.heap.size + 1, 0, none⟩ = some (.slice (some ⟨bx, ox, none⟩) l.length c2) ∧ W'.cell? ⟨b9, 0, none⟩ = some (.int .i64 (i : Int)) ∧ W'.cell? ⟨b9, 1, none⟩ = some (.int .i64 (k : Int)) ∧ W'.cell? ⟨bx, ox + i * 6 + k * 2, none⟩ = some (.int .i64 b.a) ∧ W'.cell? ⟨bx, ox + i * 6 + k * 2 + 1, none⟩ = some (.int .i64 b.b) := fun W' hW' => by
      have g6 := st1c (hC.r6.below hW' hC.r6.lt)
      obtain ⟨g0, g1⟩ := st2 (r9.below hW' r9.lt)
      obtain ⟨g2, g3⟩ := hxc W' ((hC.b.trans (hW'.mono hC.b.size)).block _ hbx2)
      exact ⟨g6, g0, g1, g2, g3⟩
    have HS6 := Lib.hid hs6
    have HPL := Lib.hid hplk
    have HALL := Lib.hid hall
    have HPC := Lib.hid hpc
    have HVC := Lib.hid hvc
    have HCB := Lib.hid hC
    have R9 := Lib.hid r9
    have R10 := Lib.hid r10
    clear hc hb hp hokl hs6 hplk hall hpc hvc hxc hC r9 r10
    refine wpIn_block ?_
    refine wpIn_seq_k ?_
    intro K1 hK1
    have HK1 := Lib.hid hK1
    clear hK1
    refine wpIn_region_ord 9 [(1, 0), (1, 1), (1, 2), (1, 3), (1, 4), (1, 5), (1, 6), (1, 7), (2, 8)] (fun W' => W'.cell? ⟨w.heap.size + 1, 0, none⟩ = some (.slice (some ⟨bx, ox, none⟩) l.length c2) ∧ W'.cell? ⟨b9, 0, none⟩ = some (.int .i64 (i : Int)) ∧ W'.cell? ⟨b9, 1, none⟩ = some (.int .i64 (k : Int)) ∧ W'.cell? ⟨bx, ox + i * 6 + k * 2, none⟩ = some (.int .i64 b.a) ∧ W'.cell? ⟨bx, ox + i * 6 + k * 2 + 1, none⟩ = some (.int .i64 b.b)) (by kernel_rfl) (by kernel_rfl) (fun ⟨_, _, h⟩ => h) (fun _ _ d _ _ h => by cases d <;> exact h) ⟨k6, p0, p1, x0, x1⟩ ?_
    have hD := (Below.refl W.heap.size W).drew
    have hDz : W.drew.heap.size = W.heap.size := rfl
    generalize W.drew = W1 at hD hDz ⊢
    iterate 8
      refine wpOrd_take (v := ?_) rfl (by rfl) (fun w hSw => ?_) ?_
      rotate_left 1
      · obtain ⟨k0, k1, k2, k3, k4⟩ := hSw
        go_simp
        with_reducible rfl
      simp only [Act.put, List.setIfInBounds_toArray, List.set_cons_zero, List.set_cons_succ]
    refine wpOrd_step rfl (fun K hK => ⟨by rfl, ?_⟩)
    go_simp
    refine hK _ _ (HS6.out _ (hD.alloc (by omega) _)) ?_
    clear hK K
    refine wpOrd_nil ?_
    simp only [List.drop_succ_cons, List.drop_zero]
    go_wp2
    refine HK1.out _ _ ?_
    clear HK1 K1
    have r11 := row_size hDz 53 [Value.int .i64 b.a, .int .i64 b.b]
    have hB5 : Below W.heap.size W (W1.alloc (.cells #[.int .i64 b.a, .int .i64 b.b] 53)) := hD.alloc (by omega) _
    obtain ⟨W5, hW5⟩ : ∃ W5, W1.alloc (.cells #[.int .i64 b.a, .int .i64 b.b] 53) = W5 := ⟨_, rfl⟩
    replace r11 : Row W5 W.heap.size 53 [.int .i64 b.a, .int .i64 b.b] := hW5 ▸ r11
    rw [hW5] at hB5
    rw [hW5]
    clear hW5 x0 x1 k6 p0 p1 HS6
    have hs7 : ∀ W', Below W5.heap.size W5 W' → W'.cell? ⟨w.heap.size, 0, none⟩ = some (.int .i64 key) ∧ W'.cell? ⟨b9, 0, none⟩ = some (.int .i64 (i : Int)) ∧ W'.cell? ⟨b9, 1, none⟩ = some (.int .i64 (k : Int)) ∧ W'.cell? ⟨b10, 0, none⟩ = some (.int .i64 c.a) ∧ W'.cell? ⟨b10, 1, none⟩ = some (.int .i64 c.b) ∧ W'.cell? ⟨W.heap.size, 0, none⟩ = some (.int .i64 b.a) ∧ W'.cell? ⟨W.heap.size, 1, none⟩ = some (.int .i64 b.b) ∧ W'.cell? ⟨w.heap.size + 1 + 1, 0, none⟩ = some (.slice (some ⟨bp, op, none⟩) l.length c3) ∧ W'.cell? ⟨bp, op + i * 6 + k * 2, none⟩ = some (.int .i64 p.e) ∧ W'.cell? ⟨bp, op + i * 6 + k * 2 + 1, none⟩ = some (.int .i64 p.s) := fun W' hW' => by
      have hWW := hB5.trans (hW'.mono hB5.size)
      have hC' := HCB.out.below hWW
      have g4 := st1c hC'.r4
      have g7 := st1c hC'.r7
      obtain ⟨g0, g1⟩ := st2 (R9.out.below hWW R9.out.lt)
      obtain ⟨g2, g3⟩ := st2 (R10.out.below hWW R10.out.lt)
      obtain ⟨g5, g6⟩ := st2 (r11.below hW' r11.lt)
      obtain ⟨g8, g9⟩ := HPC.out W' (hC'.b.block _ hbp2)
      exact ⟨g4, g0, g1, g2, g3, g5, g6, g7, g8, g9⟩
    have HS7 := Lib.hid hs7
    have HB5 := Lib.hid hB5
    have R11 := Lib.hid r11
    clear hs7 r11 hB5
    have hzW5 : w.heap.size ≤ W5.heap.size := by have h1 := HCB.out.b.size; have h2 := HB5.out.size; omega
    by_cases hab : b.a = c.a
    · have hq : (b.a != c.a) = false := by simp [hab]
      have hpl2 : plOK key l x ps (3 * i + k) = chkB key c.a (mulC c.b (powC b.b (-1))) p := by rw [HPL.out, decide_eq_true hab, Bool.true_and]
      have n1 := fun w => epow_at b.b (-1) w
      have n2 := fun W => emul_two (y := powC b.b (-1)) HVC.out W
      obtain ⟨y, hy⟩ : ∃ y, powC b.b (-1) = y := ⟨_, rfl⟩
      rw [hy] at n1 n2 hpl2
      obtain ⟨m, hm⟩ : ∃ m, mulC c.b y = m := ⟨_, rfl⟩
      rw [hm] at n2 hpl2
      have n3 := fun W (hb : Below w.heap.size w W) => eqcheck_any key c.a m p W (HT.out.below hb)
      obtain ⟨z, hzz⟩ : ∃ z, chkB key c.a m p = z := ⟨_, rfl⟩
      rw [hzz] at n3 hpl2
      unfold Pf.val at n3
      have N1 := Lib.hid n1
      have N2 := Lib.hid n2
      have N3 := Lib.hid n3
      have HPZ := Lib.hid hpl2
      clear n1 n2 n3 hpl2 hy hm hzz hab
      refine wpIn_seq_k ?_
      intro K2 hK2
      have HK2 := Lib.hid hK2
      clear hK2
      refine wpIn_region_ord 24 [(1, 0), (1, 1), (1, 2), (1, 3), (1, 4), (1, 5), (1, 6), (1, 7), (1, 8), (1, 9), (1, 10), (1, 11), (1, 12), (1, 16), (1, 17), (1, 18), (1, 19), (1, 20), (1, 21), (1, 22), (1, 23), (2, 13), (2, 14), (2, 15)] (fun W' => W'.cell? ⟨w.heap.size, 0, none⟩ = some (.int .i64 key) ∧ W'.cell? ⟨b9, 0, none⟩ = some (.int .i64 (i : Int)) ∧ W'.cell? ⟨b9, 1, none⟩ = some (.int .i64 (k : Int)) ∧ W'.cell? ⟨b10, 0, none⟩ = some (.int .i64 c.a) ∧ W'.cell? ⟨b10, 1, none⟩ = some (.int .i64 c.b) ∧ W'.cell? ⟨W.heap.size, 0, none⟩ = some (.int .i64 b.a) ∧ W'.cell? ⟨W.heap.size, 1, none⟩ = some (.int .i64 b.b) ∧ W'.cell? ⟨w.heap.size + 1 + 1, 0, none⟩ = some (.slice (some ⟨bp, op, none⟩) l.length c3) ∧ W'.cell? ⟨bp, op + i * 6 + k * 2, none⟩ = some (.int .i64 p.e) ∧ W'.cell? ⟨bp, op + i * 6 + k * 2 + 1, none⟩ = some (.int .i64 p.s)) (by kernel_rfl) (by kernel_rfl) (fun ⟨_, _, h⟩ => h) (fun _ _ d _ _ h => by cases d <;> exact h) (HS7.out _ (Below.refl _ _).drew) ?_
      have hB5 := (Below.refl W5.heap.size W5).drew
      generalize W5.drew = W6 at hB5 ⊢
      iterate 6
        refine wpOrd_take (v := ?_) rfl (by rfl) (fun w hSw => ?_) ?_
        rotate_left 1
        · obtain ⟨k0, k1, k2, k3, k4, k5, k6, k7, k8, k9⟩ := hSw
          go_simp
          with_reducible rfl
        simp only [Act.put, List.setIfInBounds_toArray, List.set_cons_zero, List.set_cons_succ]
      iterate 15
        refine wpOrd_take (v := ?_) rfl (by go_simp) (fun w hSw => ?_) ?_
        rotate_left 1
        · obtain ⟨k0, k1, k2, k3, k4, k5, k6, k7, k8, k9⟩ := hSw
          go_simp
          with_reducible rfl
        simp only [Act.put, List.setIfInBounds_toArray, List.set_cons_zero, List.set_cons_succ]
      refine wpOrd_step rfl (fun K hK => ⟨by go_simp, ?_⟩)
      go_simp
      go_at_call 43
      refine (N1.out _).mono ?_
      rintro e w7 ⟨rfl, hb⟩
      replace hB5 := hB5.trans (hb.mono hB5.size)
      refine hK _ _ (HS7.out _ hB5) ?_
      clear hK K hb
      try simp only [Act.put, List.setIfInBounds_toArray, List.set_cons_zero, List.set_cons_succ]
      refine wpOrd_step rfl (fun K hK => ⟨by go_simp, ?_⟩)
      go_simp
      refine hK _ _ (HS7.out _ (hB5.alloc hB5.size _)) ?_
      clear hK K
      try simp only [Act.put, List.setIfInBounds_toArray, List.set_cons_zero, List.set_cons_succ]
      refine wpOrd_step rfl (fun K hK => ⟨by go_simp, ?_⟩)
      go_simp
      go_at_call 52
      refine (N2.out _).mono ?_
      rintro e w8 ⟨rfl, hb⟩
      replace hB5 := hB5.trans (hb.mono hB5.size)
      refine hK _ _ (HS7.out _ hB5) ?_
      clear hK K hb
      try simp only [Act.put, List.setIfInBounds_toArray, List.set_cons_zero, List.set_cons_succ]
      refine wpOrd_nil ?_
      simp only [List.drop_succ_cons, List.drop_zero]
      have hBw := (HCB.out.b.trans (HB5.out.mono HCB.out.b.size)).trans (hB5.mono hzW5)
      go_wp2_with (go_at_call 21; (with_reducible refine (N3.out _ hBw).mono ?_); rintro e w9 ⟨rfl, hb9'⟩)
      refine HK2.out _ _ ?_
      have hW9 : Below W.heap.size W w9 := HB5.out.trans ((hB5.trans (hb9'.mono hB5.size)).mono HB5.out.size)
      clear HK2 K2 hB5
      cases z with
      | true =>
        gi_wp2
        exact ⟨Kept.below hW9 (by omega) hW9.size, SameOn.below hW9 (fun r hr => by have := HYL.out r hr; have := HCB.out.b.size; omega), HCB.out.below hW9, fun j hj => by
          by_cases e : j = 3 * i + k
          · rw [e]; exact HPZ.out
          · exact HALL.out j (by omega)⟩
      | false =>
        have hC9 := HCB.out.below hW9
        have r8 := hC9.r8
        have k8 := st1c r8
        have y8 := r8.frozen 0
        have hz8 := r8.lt
        have hzc := HCB.out.b.size
        have hallf : (List.range (3 * l.length)).all (plOK key l x ps) = false := by
          rw [List.all_eq_false]
          exact ⟨3 * i + k, List.mem_range.2 (by omega), by rw [HPZ.out]; decide⟩
        have HAF := Lib.hid hallf
        have HB9 := Lib.hid hC9.b
        clear hallf hC9
        gi_wp2
        exact ⟨(Kept.below hW9 (by omega) hW9.size).trans (Kept.setCell _ _ (by simp only []; omega) (by simp only []; omega)), rfl, HAF.out, Row.store r8 0 _, HB9.out.setCell (p := ⟨w.heap.size + 1 + 1 + 1, 0, none⟩) (by simp only []; omega) _⟩
    · have hq : (b.a != c.a) = true := by simp [hab]
      have hpl2 : plOK key l x ps (3 * i + k) = false := by rw [HPL.out, decide_eq_false hab, Bool.false_and]
      have HPZ := Lib.hid hpl2
      clear hpl2 hab
      refine wpIn_seq_k ?_
      intro K2 hK2
      have HK2 := Lib.hid hK2
      clear hK2
      refine wpIn_region_ord 24 [(1, 0), (1, 1), (1, 2), (1, 3), (1, 4), (1, 5), (1, 6), (1, 7), (1, 8), (1, 9), (1, 10), (1, 11), (1, 12), (1, 16), (1, 17), (1, 18), (1, 19), (1, 20), (1, 21), (1, 22), (1, 23), (1, 13), (1, 14), (1, 15)] (fun W' => W'.cell? ⟨w.heap.size, 0, none⟩ = some (.int .i64 key) ∧ W'.cell? ⟨b9, 0, none⟩ = some (.int .i64 (i : Int)) ∧ W'.cell? ⟨b9, 1, none⟩ = some (.int .i64 (k : Int)) ∧ W'.cell? ⟨b10, 0, none⟩ = some (.int .i64 c.a) ∧ W'.cell? ⟨b10, 1, none⟩ = some (.int .i64 c.b) ∧ W'.cell? ⟨W.heap.size, 0, none⟩ = some (.int .i64 b.a) ∧ W'.cell? ⟨W.heap.size, 1, none⟩ = some (.int .i64 b.b) ∧ W'.cell? ⟨w.heap.size + 1 + 1, 0, none⟩ = some (.slice (some ⟨bp, op, none⟩) l.length c3) ∧ W'.cell? ⟨bp, op + i * 6 + k * 2, none⟩ = some (.int .i64 p.e) ∧ W'.cell? ⟨bp, op + i * 6 + k * 2 + 1, none⟩ = some (.int .i64 p.s)) (by kernel_rfl) (by kernel_rfl) (fun ⟨_, _, h⟩ => h) (fun _ _ d _ _ h => by cases d <;> exact h) (HS7.out _ (Below.refl _ _).drew) ?_
      have hB5 := (Below.refl W5.heap.size W5).drew
      generalize W5.drew = W6 at hB5 ⊢
      iterate 6
        refine wpOrd_take (v := ?_) rfl (by rfl) (fun w hSw => ?_) ?_
        rotate_left 1
        · obtain ⟨k0, k1, k2, k3, k4, k5, k6, k7, k8, k9⟩ := hSw
          go_simp
          with_reducible rfl
        simp only [Act.put, List.setIfInBounds_toArray, List.set_cons_zero, List.set_cons_succ]
      iterate 17
        refine wpOrd_skip rfl (by go_simp) ?_
        simp only [Act.put, List.setIfInBounds_toArray, List.set_cons_zero, List.set_cons_succ]
      refine wpOrd_skip_last rfl (by go_simp) (fun a' ha' => ?_)
      simp only [Act.put, List.setIfInBounds_toArray, List.set_cons_zero, List.set_cons_succ] at ha'
      subst ha'
      simp only [List.drop_succ_cons, List.drop_zero]
      go_wp2_with fail
      refine HK2.out _ _ ?_
      have hW9 : Below W.heap.size W W6 := HB5.out.trans (hB5.mono HB5.out.size)
      clear HK2 K2 hB5
      have hC9 := HCB.out.below hW9
      have r8 := hC9.r8
      have k8 := st1c r8
      have y8 := r8.frozen 0
      have hz8 := r8.lt
      have hzc := HCB.out.b.size
      have hallf : (List.range (3 * l.length)).all (plOK key l x ps) = false := by
        rw [List.all_eq_false]
        exact ⟨3 * i + k, List.mem_range.2 (by omega), by rw [HPZ.out]; decide⟩
      have HAF := Lib.hid hallf
      have HB9 := Lib.hid hC9.b
      clear hallf hC9
      gi_wp2
      exact ⟨(Kept.below hW9 (by omega) hW9.size).trans (Kept.setCell _ _ (by simp only []; omega) (by simp only []; omega)), rfl, HAF.out, Row.store r8 0 _, HB9.out.setCell (p := ⟨w.heap.size + 1 + 1 + 1, 0, none⟩) (by simp only []; omega) _⟩
  case done =>
    rintro W ⟨hC, hall⟩ hsz hD
    have hal : (List.range (3 * l.length)).all (plOK key l x ps) = true := by
      rw [List.all_eq_true]
      intro j hj
      exact hall j (by rw [plVals_length]; exact List.mem_range.1 hj)
    have HE := Lib.hid hal
    have r8 := hC.r8
    have k8 := st1c r8
    have y8 := r8.frozen 0
    have hz8 := r8.lt
    have hbz := hC0.b.size
    have HB := Lib.hid hC.b
    clear hal hall hC
    gi_wp2
    have b1 := Row.store r8 0 (.bool true)
    have hD' : (W.setCell ⟨w.heap.size + 1 + 1 + 1, 0, none⟩ (.bool true)).heap[W0.heap.size]? = some (.deferred (some [])) := (Below.heap_setCell _ _ _ _ (by simp only []; omega)).trans hD
    have hBf := HB.out.setCell (p := ⟨w.heap.size + 1 + 1 + 1, 0, none⟩) (by simp only []; omega) (.bool true)
    refine ⟨by simp, .inl ⟨_, _, rfl, run_takeDeferred hD', ?_⟩⟩
    have d1 := st1c (Row.keep b1 ((grownBy_putObj' _ W0.heap.size (.deferred none)).block _ b1.lt (by simp; omega)))
    refine ⟨.bool true, ?_, by rw [HE.out], ?_⟩
    · simp [results, Tryd.f28, go_sem, d1]
    · exact hBf.grown (grownBy_putObj' _ W0.heap.size (.deferred none)) hBf.size (fun r e => by cases e; omega)
  case stop =>
    rintro c j W hj ⟨rfl, h2, h3, h4⟩ hsz hD
    have HE := Lib.hid h2
    clear h2
    gi_wp2
    refine ⟨by simp, .inl ⟨_, _, rfl, run_takeDeferred hD, ?_⟩⟩
    have d1 := st1c (h3.keep ((grownBy_putObj' W W0.heap.size (.deferred none)).block _ h3.lt (by simp; have := hC0.b.size; omega)))
    refine ⟨.bool false, ?_, by rw [HE.out], ?_⟩
    · simp [results, Tryd.f28, go_sem, d1]
    · exact h4.grown (grownBy_putObj' _ W0.heap.size (.deferred none)) h4.size (fun r e => by cases e; have := hC0.b.size; omega)
end Go.Proofs.YtaheibbbdglcmaaDoor

/-! Shares, in plain words: values of polynomials modulo Q. -/
namespace Fk
structure Sh where
  a : Int
  v : Int
instance : Inhabited Sh := ⟨⟨0, 0⟩⟩
def hornerQ (x : Int) : List Int → Int
  | [] => 0
  | m :: r => (hornerQ x r + m % 1073741789) * x % 1073741789
def pval (s : Int) (more : List Int) (x : Int) : Int := (hornerQ x more + s) % 1073741789
theorem hornerQ_bd (x : Int) (l : List Int) : 0 ≤ hornerQ x l ∧ hornerQ x l < 1073741789 := by
  cases l with
  | nil => simp [hornerQ]
  | cons m r => rw [hornerQ]; omega
theorem pval_bd (s : Int) (l : List Int) (x : Int) : 0 ≤ pval s l x ∧ pval s l x < 1073741789 := by
  unfold pval; omega
def dealOK (s : Int) (k : Nat) (n : Int) : Prop := 1 ≤ s ∧ s < 1073741789 ∧ 1 ≤ n ∧ n ≤ 24 ∧ (k : Int) < n
def dealTo (s : Int) (more : List Int) (k : Nat) : List Sh := (List.range k).map fun (i : Nat) => ⟨(i : Int) + 1, pval s more ((i : Int) + 1)⟩
theorem dealTo_succ (s : Int) (more : List Int) (k : Nat) : dealTo s more (k + 1) = dealTo s more k ++ [⟨(k : Int) + 1, pval s more ((k : Int) + 1)⟩] := by
  unfold dealTo; rw [List.range_succ, List.map_append]; rfl
theorem dealTo_length (s : Int) (more : List Int) (k : Nat) : (dealTo s more k).length = k := by simp [dealTo]
def dealE (s : Int) (k : Nat) (n : Int) : Int := if s < 1 ∨ 1073741789 ≤ s then 110 else if n < 1 ∨ 24 < n ∨ n ≤ k then 1 else 0
def dealV (s : Int) (more : List Int) (n : Int) : List Sh := if dealE s more.length n = 0 then dealTo s more n.toNat else []
end Fk

/-! What is recovered from shares. -/
namespace Fk
/-- powers modulo Q -/
def PQ (a n c x m : Nat) : Prop := c * x ^ m % 1073741789 = a ^ n % 1073741789
theorem PQ.start (a n : Nat) : PQ a n 1 a n := by simp [PQ]
theorem powQ_half (x m : Nat) : x ^ m % 1073741789 = (if m % 2 = 1 then x * (x * x % 1073741789) ^ (m / 2) else (x * x % 1073741789) ^ (m / 2)) % 1073741789 := by
  have e : (x * x % 1073741789) ^ (m / 2) % 1073741789 = x ^ (2 * (m / 2)) % 1073741789 := by
    rw [← Nat.pow_mod, Nat.pow_mul, Nat.pow_two]
  by_cases h : m % 2 = 1
  · rw [if_pos h, Nat.mul_mod, e, ← Nat.mul_mod, ← Nat.pow_succ']
    congr 2; omega
  · rw [if_neg h, e]; congr 2; omega
theorem PQ.odd {a n c x m : Nat} (h : PQ a n c x m) (ho : m % 2 = 1) : PQ a n (c * x % 1073741789) (x * x % 1073741789) (m / 2) := by
  unfold PQ at *
  rw [← h, Nat.mul_mod c (x ^ m), powQ_half x m, if_pos ho, Nat.mul_mod (c * x % 1073741789), Nat.mod_mod, ← Nat.mul_mod, ← Nat.mul_mod, Nat.mul_assoc]
theorem PQ.even {a n c x m : Nat} (h : PQ a n c x m) (ho : ¬ m % 2 = 1) : PQ a n c (x * x % 1073741789) (m / 2) := by
  unfold PQ at *
  rw [← h, Nat.mul_mod c (x ^ m), powQ_half x m, if_neg ho, ← Nat.mul_mod]
theorem PQ.done {a n c x : Nat} (h : PQ a n c x 0) (hc : c < 1073741789) : c = a ^ n % 1073741789 := by
  unfold PQ at h
  rw [Nat.pow_zero, Nat.mul_one, Nat.mod_eq_of_lt hc] at h
  exact h
def pwQ (a n : Int) : Int := ((a.toNat ^ n.toNat % 1073741789 : Nat) : Int)
theorem pwQ_bd (a n : Int) : 0 ≤ pwQ a n ∧ pwQ a n < 1073741789 := by
  unfold pwQ
  have := Nat.mod_lt (a.toNat ^ n.toNat) (show 0 < 1073741789 by omega)
  omega

/-- a share in form -/
def shOK (s : Sh) : Prop := 1 ≤ s.a ∧ s.a ≤ 24 ∧ 0 ≤ s.v ∧ s.v < 1073741789
/-- the i-th share is in form, and none before it has its place -/
def shAt (l : List Sh) (i : Nat) : Prop := shOK (l.getD i default) ∧ ∀ j, j < i → (l.getD j default).a ≠ (l.getD i default).a
def formedS (l : List Sh) : Prop := 0 < l.length ∧ ∀ i, i < l.length → shAt l i
def stepA (s : Sh) (c : Int) (t : Sh) : Int := if t.a = s.a then c else c * t.a % 1073741789
def stepB (s : Sh) (c : Int) (t : Sh) : Int := if t.a = s.a then c else c * ((t.a - s.a) % 1073741789) % 1073741789
def aboveQ (s : Sh) (l : List Sh) : Int := l.foldl (stepA s) s.v
def belowQ (s : Sh) (l : List Sh) : Int := l.foldl (stepB s) 1
def stepR (l : List Sh) (acc : Int) (s : Sh) : Int := (acc + aboveQ s l * pwQ (belowQ s l) 1073741787) % 1073741789
def recTo (l : List Sh) (k : Nat) : Int := (l.take k).foldl (stepR l) 0
open Classical in
noncomputable def recV (l : List Sh) : Int := if formedS l then recTo l l.length else 0
open Classical in
noncomputable def recE (l : List Sh) : Int := if formedS l then 0 else 471
theorem take_snocS {l : List Sh} {k : Nat} (h : k < l.length) : l.take (k + 1) = l.take k ++ [l.getD k default] := by
  rw [List.take_succ_eq_append_getElem h]
  simp [h]
theorem aboveQ_snoc (s : Sh) (l : List Sh) (t : Sh) : aboveQ s (l ++ [t]) = stepA s (aboveQ s l) t := by simp [aboveQ]
theorem belowQ_snoc (s : Sh) (l : List Sh) (t : Sh) : belowQ s (l ++ [t]) = stepB s (belowQ s l) t := by simp [belowQ]
theorem recTo_succ {l : List Sh} {k : Nat} (h : k < l.length) : recTo l (k + 1) = stepR l (recTo l k) (l.getD k default) := by
  unfold recTo; rw [take_snocS h, List.foldl_append]; rfl
theorem fold_bd (f : Int → Sh → Int) (hf : ∀ c t, 0 ≤ c ∧ c < 1073741789 → 0 ≤ f c t ∧ f c t < 1073741789) : ∀ (l : List Sh) (c : Int), 0 ≤ c ∧ c < 1073741789 → 0 ≤ l.foldl f c ∧ l.foldl f c < 1073741789
  | [], _, h => h
  | t :: l, c, h => fold_bd f hf l (f c t) (hf c t h)
theorem aboveQ_bd {s : Sh} (hs : 0 ≤ s.v ∧ s.v < 1073741789) (l : List Sh) : 0 ≤ aboveQ s l ∧ aboveQ s l < 1073741789 :=
  fold_bd _ (fun c t h => by unfold stepA; split <;> omega) l _ hs
theorem belowQ_bd (s : Sh) (l : List Sh) : 0 ≤ belowQ s l ∧ belowQ s l < 1073741789 :=
  fold_bd _ (fun c t h => by unfold stepB; split <;> omega) l _ (by omega)
theorem recTo_bd (l : List Sh) (k : Nat) : 0 ≤ recTo l k ∧ recTo l k < 1073741789 :=
  fold_bd _ (fun c t h => by unfold stepR; omega) _ _ (by omega)
theorem recE_bad {l : List Sh} {i : Nat} (hi : i < l.length) (h : ¬ shAt l i) : recE l = 471 ∧ recV l = 0 := by
  have hn : ¬ formedS l := fun hc => h (hc.2 i hi)
  unfold recE recV; rw [if_neg hn, if_neg hn]; exact ⟨rfl, rfl⟩
theorem recE_nil : recE [] = 471 ∧ recV [] = 0 := by
  have hn : ¬ formedS [] := fun hc => absurd hc.1 (by simp)
  unfold recE recV; rw [if_neg hn, if_neg hn]; exact ⟨rfl, rfl⟩
theorem recE_ok {l : List Sh} (h : formedS l) : recE l = 0 ∧ recV l = recTo l l.length := by
  unfold recE recV; rw [if_pos h, if_pos h]; exact ⟨rfl, rfl⟩
/-- which places have been met -/
def metB (l : List Sh) (j : Nat) : Bool := l.any fun s => s.a == (j : Int)
theorem metB_snoc (l : List Sh) (s : Sh) (j : Nat) : metB (l ++ [s]) j = (metB l j || s.a == (j : Int)) := by simp [metB]
theorem met_iff {l : List Sh} {k : Nat} (hk : k ≤ l.length) (j : Nat) : metB (l.take k) j = true ↔ ∃ i, i < k ∧ (l.getD i default).a = (j : Int) := by
  unfold metB
  rw [List.any_eq_true]
  constructor
  · rintro ⟨s, hs, he⟩
    obtain ⟨i, hi, rfl⟩ := List.getElem_of_mem hs
    rw [List.length_take] at hi
    refine ⟨i, by omega, ?_⟩
    rw [List.getElem_take] at he
    rw [List.getD_eq_getElem?_getD, List.getElem?_eq_getElem (by omega)]
    simpa using he
  · rintro ⟨i, hi, he⟩
    refine ⟨(l.take k)[i]'(by rw [List.length_take]; omega), List.getElem_mem _, ?_⟩
    rw [List.getElem_take]
    rw [List.getD_eq_getElem?_getD, List.getElem?_eq_getElem (by omega)] at he
    simpa using he
theorem next_sh {l : List Sh} {k : Nat} (h : ∀ j, j < k → shAt l j) (hk : shAt l k) : ∀ j, j < k + 1 → shAt l j := fun j hj => by
  rcases Nat.lt_or_ge j k with h1 | h1
  · exact h j h1
  · obtain rfl : j = k := by omega
    exact hk
end Fk

/-! The reference's ways to the same numbers. -/
namespace Fk
def sumP (x : Int) : List Int → Int
  | [] => 0
  | m :: r => m + x * sumP x r
theorem cg_iff {a b : Int} : a % 1073741789 = b % 1073741789 ↔ ∃ k, a = b + 1073741789 * k := by
  constructor
  · intro h
    obtain ⟨k, hk⟩ := dvd_sub_of_emod_eq h
    exact ⟨k, by omega⟩
  · rintro ⟨k, rfl⟩
    exact Int.add_mul_emod_self_left b 1073741789 k
theorem cg_mod (a : Int) : ∃ k, a % 1073741789 = a + 1073741789 * k := ⟨-(a / 1073741789), by have := Int.emod_add_mul_ediv a 1073741789; omega⟩
theorem horner_sum (x : Int) : ∀ l : List Int, hornerQ x l % 1073741789 = (x * sumP x l) % 1073741789
  | [] => by simp [hornerQ, sumP]
  | m :: r => by
    obtain ⟨k1, h1⟩ := cg_iff.1 (horner_sum x r)
    obtain ⟨k2, h2⟩ := cg_mod m
    rw [hornerQ, sumP, Int.emod_emod_of_dvd _ (Int.dvd_refl _)]
    refine cg_iff.2 ⟨(k1 + k2) * x, ?_⟩
    rw [h1, h2]
    grind
theorem pval_sum (s : Int) (l : List Int) (x : Int) : pval s l x = (s + x * sumP x l) % 1073741789 := by
  obtain ⟨k, hk⟩ := cg_iff.1 (horner_sum x l)
  unfold pval
  refine cg_iff.2 ⟨k, ?_⟩
  rw [hk]; omega
/-- what holds at the head of the reference's loop -/
def RVal (s x : Int) (l : List Int) (i : Nat) (n pw : Int) : Prop := (n + pw * (x * sumP x (l.drop i))) % 1073741789 = (s + x * sumP x l) % 1073741789 ∧ 0 ≤ n ∧ n < 1073741789 ∧ 0 ≤ pw ∧ pw < 1073741789
theorem RVal.start (s x : Int) (l : List Int) (hs : 0 ≤ s ∧ s < 1073741789) : RVal s x l 0 s 1 := by
  refine ⟨by rw [List.drop_zero, Int.one_mul], hs.1, hs.2, by omega, by omega⟩
theorem RVal.step {s x : Int} {l : List Int} {i : Nat} {n pw : Int} (h : RVal s x l i n pw) (hi : i < l.length) :
    RVal s x l (i + 1) ((n + l.getD i default % 1073741789 * (pw * (x % 1073741789) % 1073741789) % 1073741789) % 1073741789) (pw * (x % 1073741789) % 1073741789) := by
  obtain ⟨h0, _, _, _, _⟩ := h
  refine ⟨?_, by omega, by omega, by omega, by omega⟩
  rw [← h0]
  have hd : l.drop i = l.getD i default :: l.drop (i + 1) := by rw [List.drop_eq_getElem_cons hi]; simp [hi]
  rw [hd, sumP]
  generalize l.getD i default = m
  generalize sumP x (l.drop (i + 1)) = S
  obtain ⟨k1, e1⟩ := cg_mod x
  obtain ⟨k2, e2⟩ := cg_mod (pw * (x % 1073741789))
  obtain ⟨k3, e3⟩ := cg_mod m
  obtain ⟨k4, e4⟩ := cg_mod (m % 1073741789 * (pw * (x % 1073741789) % 1073741789))
  obtain ⟨k5, e5⟩ := cg_mod (n + m % 1073741789 * (pw * (x % 1073741789) % 1073741789) % 1073741789)
  rw [e5, e4, e2, e3, e1]
  refine cg_iff.2 ⟨k5 + k4 + k3 * (pw * (x + 1073741789 * k1) + 1073741789 * k2) + (m + x * S) * (pw * k1 + k2), ?_⟩
  grind
theorem RVal.done {s x : Int} {l : List Int} {n pw : Int} (h : RVal s x l l.length n pw) : n = pval s l x := by
  obtain ⟨h0, h1, h2, _, _⟩ := h
  rw [List.drop_length, sumP, Int.mul_zero, Int.mul_zero, Int.add_zero, Int.emod_eq_of_lt h1 h2] at h0
  rw [h0, pval_sum]

/-! ### recovering -/
/-- two numbers are, modulo Q, one sign times two others -/
def Sg (a b p q : Int) : Prop := (a % 1073741789 = p % 1073741789 ∧ b % 1073741789 = q % 1073741789) ∨ (a % 1073741789 = (-p) % 1073741789 ∧ b % 1073741789 = (-q) % 1073741789)
theorem Sg.step {a b p q t d : Int} (h : Sg a b p q) : Sg (a * (-t)) (b * (-d)) (p * t) (q * d) := by
  rcases h with ⟨h1, h2⟩ | ⟨h1, h2⟩
  · right
    obtain ⟨k1, rfl⟩ := cg_iff.1 h1
    obtain ⟨k2, rfl⟩ := cg_iff.1 h2
    exact ⟨cg_iff.2 ⟨-(k1 * t), by grind⟩, cg_iff.2 ⟨-(k2 * d), by grind⟩⟩
  · left
    obtain ⟨k1, rfl⟩ := cg_iff.1 h1
    obtain ⟨k2, rfl⟩ := cg_iff.1 h2
    exact ⟨cg_iff.2 ⟨-(k1 * t), by grind⟩, cg_iff.2 ⟨-(k2 * d), by grind⟩⟩
theorem Sg.congr {a b p q a' b' p' q' : Int} (h : Sg a b p q) (ha : a' % 1073741789 = a % 1073741789) (hb : b' % 1073741789 = b % 1073741789) (hp : p' % 1073741789 = p % 1073741789) (hq : q' % 1073741789 = q % 1073741789) : Sg a' b' p' q' := by
  have neg : ∀ {x y : Int}, x % 1073741789 = y % 1073741789 → (-x) % 1073741789 = (-y) % 1073741789 := fun h => by
    obtain ⟨k, rfl⟩ := cg_iff.1 h
    exact cg_iff.2 ⟨-k, by grind⟩
  rcases h with ⟨h1, h2⟩ | ⟨h1, h2⟩
  · left; exact ⟨by rw [ha, h1, hp], by rw [hb, h2, hq]⟩
  · right; exact ⟨by rw [ha, h1, neg hp], by rw [hb, h2, neg hq]⟩
theorem powZ_congr {a b : Int} (h : a % 1073741789 = b % 1073741789) : ∀ n : Nat, a ^ n % 1073741789 = b ^ n % 1073741789
  | 0 => by rw [Int.pow_zero, Int.pow_zero]
  | n + 1 => by rw [Int.pow_succ, Int.pow_succ, Int.mul_emod, powZ_congr h n, h, ← Int.mul_emod]
theorem neg_powZ (a : Int) : ∀ m : Nat, (-a) ^ (2 * m + 1) = -(a ^ (2 * m + 1))
  | 0 => by rw [show 2 * 0 + 1 = 1 from rfl, Int.pow_succ, Int.pow_succ, Int.pow_zero, Int.pow_zero, Int.one_mul, Int.one_mul]
  | m + 1 => by
    have ih := neg_powZ a m
    have e : 2 * (m + 1) + 1 = (2 * m + 1) + 1 + 1 := by omega
    rw [e, Int.pow_succ, Int.pow_succ, Int.pow_succ a (2 * m + 1 + 1), Int.pow_succ a (2 * m + 1), ih]
    simp [Int.neg_mul, Int.mul_neg]
def ex2 : Nat := 1073741787
theorem ex2_eq : ex2 = 2 * 536870893 + 1 := rfl
theorem pwQ_ex (a : Int) (ha : 0 ≤ a) : pwQ a 1073741787 = a ^ ex2 % 1073741789 := by
  unfold pwQ
  rw [show (1073741787 : Int).toNat = ex2 from rfl, Int.natCast_emod, Int.natCast_pow, Int.toNat_of_nonneg ha]
  rfl
theorem Sg.quot {a b p q : Int} (h : Sg a b p q) (hb : 0 ≤ b) (hq : 0 ≤ q) : (a * pwQ b 1073741787) % 1073741789 = (p * pwQ q 1073741787) % 1073741789 := by
  rw [pwQ_ex b hb, pwQ_ex q hq]
  rcases h with ⟨h1, h2⟩ | ⟨h1, h2⟩
  · rw [powZ_congr h2, Int.mul_emod, h1, ← Int.mul_emod]
  · rw [powZ_congr h2, ex2_eq, neg_powZ, ← ex2_eq, Int.mul_emod, h1, ← Int.mul_emod]
    obtain ⟨k1, e1⟩ := cg_mod (-(q ^ ex2))
    obtain ⟨k2, e2⟩ := cg_mod (q ^ ex2)
    rw [e1, e2]
    exact cg_iff.2 ⟨-(p * k1) - p * k2, by grind⟩

theorem nodup_length_le : ∀ (l m : List Nat), l.Nodup → (∀ a ∈ l, a ∈ m) → l.length ≤ m.length
  | [], _, _, _ => by simp
  | a :: t, m, hn, hs => by
    have ha : a ∈ m := hs a (by simp)
    rw [List.nodup_cons] at hn
    have := nodup_length_le t (m.erase a) hn.2 (fun b hb => (List.mem_erase_of_ne (fun (e : b = a) => hn.1 (e ▸ hb))).2 (hs b (by simp [hb])))
    have h2 := List.length_erase_of_mem ha
    have h3 := List.length_pos_of_mem ha
    simp; omega
theorem formed_le {l : List Sh} (h : formedS l) : l.length ≤ 24 := by
  have h1 : (l.map fun s => s.a.toNat).Nodup := by
    rw [List.Nodup, List.pairwise_map, List.pairwise_iff_getElem]
    intro i j hi hj hij he
    have hi' := (h.2 i hi).1
    have hj' := h.2 j hj
    have := hj'.2 i hij
    rw [List.getD_eq_getElem?_getD, List.getElem?_eq_getElem hi] at hi' this
    have h4 := hj'.1
    rw [List.getD_eq_getElem?_getD, List.getElem?_eq_getElem hj] at h4 this
    unfold shOK at hi' h4
    simp only [Option.getD_some] at *
    omega
  have := nodup_length_le _ (List.range' 1 24) h1 (fun a ha => by
    obtain ⟨s, hs, rfl⟩ := List.mem_map.1 ha
    obtain ⟨i, hi, rfl⟩ := List.getElem_of_mem hs
    have hi' := (h.2 i hi).1
    rw [List.getD_eq_getElem?_getD, List.getElem?_eq_getElem hi] at hi'
    unfold shOK at hi'
    simp only [Option.getD_some] at hi'
    rw [List.mem_range'_1]; omega)
  simpa using this
/-- the product of the other places -/
def pA (s : Sh) (l : List Sh) : Int := l.foldl (stepA s) 1
theorem pA_snoc (s : Sh) (l : List Sh) (t : Sh) : pA s (l ++ [t]) = stepA s (pA s l) t := by simp [pA]
theorem foldA_mul (s : Sh) : ∀ (l : List Sh) (c d v : Int), c % 1073741789 = (v * d) % 1073741789 → l.foldl (stepA s) c % 1073741789 = (v * l.foldl (stepA s) d) % 1073741789
  | [], c, d, v, h => h
  | t :: l, c, d, v, h => by
    rw [List.foldl_cons, List.foldl_cons]
    apply foldA_mul s l
    unfold stepA
    split
    · exact h
    · obtain ⟨k, rfl⟩ := cg_iff.1 h
      obtain ⟨k1, e1⟩ := cg_mod ((v * d + 1073741789 * k) * t.a)
      obtain ⟨k2, e2⟩ := cg_mod (d * t.a)
      rw [e1, e2]
      exact cg_iff.2 ⟨k1 + k * t.a - v * k2, by grind⟩
theorem above_pA (s : Sh) (l : List Sh) : aboveQ s l % 1073741789 = (s.v * pA s l) % 1073741789 := foldA_mul s l _ _ _ (by rw [Int.mul_one])
/-- the reference's inner loop -/
def RInv (s : Sh) (l : List Sh) (k : Nat) (a b : Int) : Prop := Sg a b (pA s (l.take k)) (belowQ s (l.take k))
theorem RInv.start (s : Sh) (l : List Sh) : RInv s l 0 1 1 := .inl ⟨by simp [pA], by simp [belowQ]⟩
theorem RInv.skip {s : Sh} {l : List Sh} {k : Nat} {a b : Int} (h : RInv s l k a b) (hk : k < l.length) (he : (l.getD k default).a = s.a) : RInv s l (k + 1) a b := by
  unfold RInv at *
  rw [take_snocS hk, pA_snoc, belowQ_snoc, stepA, stepB, if_pos he, if_pos he]
  exact h
theorem RInv.step {s : Sh} {l : List Sh} {k : Nat} {a b : Int} (h : RInv s l k a b) (hk : k < l.length) (he : (l.getD k default).a ≠ s.a) :
    RInv s l (k + 1) (a % 1073741789 * (-(l.getD k default).a % 1073741789) % 1073741789) (b % 1073741789 * ((s.a - (l.getD k default).a) % 1073741789) % 1073741789) := by
  unfold RInv at *
  rw [take_snocS hk, pA_snoc, belowQ_snoc, stepA, stepB, if_neg he, if_neg he]
  refine (h.step (t := (l.getD k default).a) (d := (l.getD k default).a - s.a)).congr ?_ ?_ ?_ ?_
  · rw [Int.emod_emod_of_dvd _ (Int.dvd_refl _), ← Int.mul_emod]
  · rw [Int.emod_emod_of_dvd _ (Int.dvd_refl _), ← Int.mul_emod, Int.neg_sub]
  · rw [Int.emod_emod_of_dvd _ (Int.dvd_refl _)]
  · rw [Int.emod_emod_of_dvd _ (Int.dvd_refl _), Int.mul_emod, Int.emod_emod_of_dvd _ (Int.dvd_refl _), ← Int.mul_emod]
theorem RInv.done {s : Sh} {l : List Sh} {a b R : Int} (h : RInv s l l.length a b) (hb : 0 ≤ b ∧ b < 1073741789) :
    (R + s.v % 1073741789 * (a % 1073741789 * (pwQ (b % 1073741789) 1073741787 % 1073741789) % 1073741789 % 1073741789) % 1073741789) % 1073741789 = stepR l R s := by
  unfold RInv at h
  rw [List.take_length] at h
  have hq := h.quot hb.1 (belowQ_bd s l).1
  have h1 := above_pA s l
  unfold stepR
  rw [Int.emod_eq_of_lt hb.1 hb.2]
  generalize pwQ b 1073741787 = B at *
  generalize pwQ (belowQ s l) 1073741787 = C at *
  generalize aboveQ s l = A at *
  generalize pA s l = Pl at *
  have e : (s.v % 1073741789 * (a % 1073741789 * (B % 1073741789) % 1073741789 % 1073741789)) % 1073741789 = (A * C) % 1073741789 := by
    have e1 : (a % 1073741789 * (B % 1073741789) % 1073741789 % 1073741789) % 1073741789 = (Pl * C) % 1073741789 := by
      rw [Int.emod_emod_of_dvd _ (Int.dvd_refl _), Int.emod_emod_of_dvd _ (Int.dvd_refl _), ← Int.mul_emod, hq]
    rw [Int.mul_emod, e1, Int.emod_emod_of_dvd _ (Int.dvd_refl _), ← Int.mul_emod, ← Int.mul_assoc, Int.mul_emod, ← h1, ← Int.mul_emod]
  rw [e, Int.add_emod, Int.emod_emod_of_dvd _ (Int.dvd_refl _), ← Int.add_emod]
end Fk

/-! Numbers modulo Q as a field; Lagrange's interpolation at 0. -/
namespace Fk
abbrev FQ := Fin 1073741789
def toF (a : Int) : FQ := ⟨(a % 1073741789).toNat, by omega⟩
theorem toF_iff {a b : Int} : toF a = toF b ↔ a % 1073741789 = b % 1073741789 := by
  unfold toF; rw [Fin.mk.injEq]; omega
theorem toF_mod (a : Int) : toF (a % 1073741789) = toF a := toF_iff.2 (by omega)
theorem toF_add (a b : Int) : toF (a + b) = toF a + toF b := by
  apply Fin.ext
  show ((a + b) % 1073741789).toNat = ((a % 1073741789).toNat + (b % 1073741789).toNat) % 1073741789
  omega
theorem toF_mul (a b : Int) : toF (a * b) = toF a * toF b := by
  apply Fin.ext
  show ((a * b) % 1073741789).toNat = ((a % 1073741789).toNat * (b % 1073741789).toNat) % 1073741789
  have e : (((a % 1073741789).toNat * (b % 1073741789).toNat % 1073741789 : Nat) : Int) = (a * b) % 1073741789 := by
    rw [Int.natCast_emod, Int.natCast_mul, Int.toNat_of_nonneg (by omega), Int.toNat_of_nonneg (by omega)]
    rw [Int.mul_emod a b]; rfl
  omega
theorem toF_zero : toF 0 = 0 := rfl
theorem toF_one : toF 1 = 1 := rfl
theorem toF_neg (a : Int) : toF (-a) = - toF a := by
  have h := toF_add a (-a)
  rw [Int.add_right_neg, toF_zero] at h
  grind
theorem toF_sub (a b : Int) : toF (a - b) = toF a - toF b := by
  rw [Int.sub_eq_add_neg, toF_add, toF_neg]; grind
theorem toF_eq0 {a : Int} : toF a = 0 ↔ a % 1073741789 = 0 := by
  rw [← toF_zero, toF_iff]; omega
theorem toF_val {a : Int} (h : 0 ≤ a) (h' : a < 1073741789) : (((toF a).val : Nat) : Int) = a := by
  show (((a % 1073741789).toNat : Nat) : Int) = a
  omega

def ex1 : Nat := 1073741788
def exh : Nat := 536870894
theorem fermat_gen {p a h : Nat} (hp : IsP p) (ho : p % 2 = 1) (ha : a % p ≠ 0) (h2 : 2 < p) (hh : p / 2 = h) : a ^ (h + h) % p = 1 := by
  have he := euler hp ho ha
  rw [hh] at he
  rw [Nat.pow_add, Nat.mul_mod, he]
  cases jac a p
  · obtain ⟨q, rfl⟩ : ∃ q, p = q + 2 := ⟨p - 2, by omega⟩
    have e : (q + 2 - 1) * (q + 2 - 1) = 1 + (q + 2) * q := by
      have e1 : q + 2 - 1 = q + 1 := by omega
      rw [e1]; grind
    simp only [Bool.false_eq_true, if_false]
    rw [e, Nat.add_mul_mod_self_left, Nat.mod_eq_of_lt (by omega)]
  · simp only [if_true]
    rw [Nat.mod_eq_of_lt (by omega)]
theorem fermat {a : Nat} (h : a % 1073741789 ≠ 0) : a ^ ex1 % 1073741789 = 1 := by
  have e : ex1 = exh + exh := rfl
  rw [e]
  exact fermat_gen isP_Q (by omega) h (by omega) rfl
/-- the inverse -/
def invF (a : FQ) : FQ := toF (pwQ (a.val : Int) 1073741787)
theorem mul_invF {a : FQ} (h : a ≠ 0) : a * invF a = 1 := by
  have hv : a.val % 1073741789 ≠ 0 := by
    rw [Nat.mod_eq_of_lt a.isLt]
    intro hc; exact h (Fin.ext hc)
  have h1 := fermat hv
  have h2 : pwQ (a.val : Int) 1073741787 = ((a.val ^ ex2 % 1073741789 : Nat) : Int) := rfl
  have e : a = toF (a.val : Int) := by
    apply Fin.ext; show a.val = ((a.val : Int) % 1073741789).toNat
    have := a.isLt; omega
  unfold invF
  conv => lhs; lhs; rw [e]
  rw [← toF_mul, ← toF_one]
  refine toF_iff.2 ?_
  rw [h2]
  have h3 : a.val * (a.val ^ ex2 % 1073741789) % 1073741789 = 1 := by
    rw [Nat.mul_mod_mod, Nat.mul_comm, ← Nat.pow_succ]; exact h1
  rw [← Int.natCast_mul]
  omega
theorem toF_pw {a : Int} (h : 0 ≤ a) (h' : a < 1073741789) : toF (pwQ a 1073741787) = invF (toF a) := by
  unfold invF; rw [toF_val h h']
theorem mul0F {a b : FQ} (h : a * b = 0) : a = 0 ∨ b = 0 := by
  by_cases ha : a = 0
  · exact .inl ha
  · have := mul_invF ha
    right
    grind
theorem invF_mul {a b : FQ} (ha : a ≠ 0) (hb : b ≠ 0) : invF (a * b) = invF a * invF b := by
  have h1 := mul_invF ha
  have h2 := mul_invF hb
  have h3 := mul_invF (a := a * b) (fun h => (mul0F h).elim ha hb)
  generalize invF a = u at *
  generalize invF b = v at *
  generalize invF (a * b) = t at *
  have : t * (a * u) * (b * v) = u * v * (a * b * t) := by grind
  rw [h1, h2, h3] at this
  grind
theorem invF_one : invF 1 = 1 := by
  have h := mul_invF (a := 1) (by decide)
  grind

/-! ### interpolation at 0 -/
def WF (b : FQ) : List FQ → FQ
  | [] => 1
  | t :: r => if t = b then WF b r else t * invF (t - b) * WF b r
def LF (f : FQ → FQ) (T : List FQ) : List FQ → FQ
  | [] => 0
  | b :: r => f b * WF b T + LF f T r
theorem LF_lin (f g : FQ → FQ) (c d : FQ) (T : List FQ) : ∀ S, LF (fun x => c * f x + d * g x) T S = c * LF f T S + d * LF g T S
  | [] => by simp only [LF]; grind
  | b :: r => by simp only [LF]; rw [LF_lin f g c d T r]; grind
theorem LF_congr {f g : FQ → FQ} {T : List FQ} : ∀ S, (∀ b, b ∈ S → f b = g b) → LF f T S = LF g T S
  | [], _ => rfl
  | b :: r, h => by
    simp only [LF]
    rw [h b (by simp), LF_congr r (fun c hc => h c (by simp [hc]))]
theorem LF_W {f : FQ → FQ} {T T' : List FQ} : ∀ S, (∀ b, WF b T = WF b T') → LF f T S = LF f T' S
  | [], _ => rfl
  | b :: r, h => by
    simp only [LF]
    rw [h b, LF_W r h]
theorem WF_swap (x a b : FQ) (T : List FQ) : WF x (a :: b :: T) = WF x (b :: a :: T) := by
  simp only [WF]
  split <;> split <;> grind
theorem LF_swap (f : FQ → FQ) (a b : FQ) (T : List FQ) : LF f (a :: b :: T) (a :: b :: T) = LF f (b :: a :: T) (b :: a :: T) := by
  rw [LF_W (T := a :: b :: T) (T' := b :: a :: T) _ (fun x => WF_swap x a b T)]
  simp only [LF]; grind
theorem LF_B (a : FQ) (q : FQ → FQ) (T : List FQ) : ∀ S, (∀ b, b ∈ S → b ≠ a) → LF (fun x => (x - a) * q x) (a :: T) S = - a * LF q T S
  | [], _ => by simp only [LF]; grind
  | b :: r, h => by
    have ih := LF_B a q T r (fun c hc => h c (by simp [hc]))
    simp only [LF]
    rw [ih]
    have hab : a ≠ b := fun e => h b (by simp) e.symm
    have h1 : a - b ≠ 0 := fun e => hab (by grind)
    have h2 := mul_invF h1
    have e : WF b (a :: T) = a * invF (a - b) * WF b T := by simp only [WF]; rw [if_neg hab]
    rw [e]
    generalize invF (a - b) = u at *
    generalize WF b T = y
    generalize LF q T r = z
    generalize q b = v
    have : (b - a) * u = -1 := by grind
    have e2 : (b - a) * v * (a * u * y) = (b - a) * u * (v * a * y) := by grind
    rw [e2, this]
    grind
theorem L_B (a : FQ) (q : FQ → FQ) (S : List FQ) (h : ∀ b, b ∈ S → b ≠ a) : LF (fun x => (x - a) * q x) (a :: S) (a :: S) = - a * LF q S S := by
  have := LF_B a q S S h
  show (a - a) * q a * _ + _ = _
  rw [this]; grind
theorem L_one : ∀ (n : Nat) (S : List FQ), S.length = n + 1 → S.Nodup → LF (fun _ => 1) S S = 1
  | 0, S, h, _ => by
    match S, h with
    | [a], _ => simp only [LF, WF]; simp
  | n + 1, S, h, hn => by
    match S, h with
    | a :: b :: R, h =>
      rw [List.nodup_cons, List.nodup_cons] at hn
      obtain ⟨h1, h2, h3⟩ := hn
      have ha : ∀ x, x ∈ b :: R → x ≠ a := fun x hx e => h1 (e ▸ hx)
      have hb : ∀ x, x ∈ a :: R → x ≠ b := fun x hx e => by
        subst e
        rw [List.mem_cons] at hx
        rcases hx with hx | hx
        · exact h1 (by rw [hx]; simp)
        · exact h2 hx
      have i1 := L_one n (b :: R) (by simp at h ⊢; omega) (List.nodup_cons.2 ⟨h2, h3⟩)
      have i2 := L_one n (a :: R) (by simp at h ⊢; omega) (List.nodup_cons.2 ⟨fun hc => h1 (by simp [hc]), h3⟩)
      have e1 := L_B a (fun _ => 1) (b :: R) ha
      have e2 := L_B b (fun _ => 1) (a :: R) hb
      rw [i1] at e1
      rw [i2, ← LF_swap] at e2
      have e3 := LF_lin (fun x => (x - a) * 1) (fun x => (x - b) * 1) 1 (-1) (a :: b :: R) (a :: b :: R)
      have e4 := LF_lin (fun _ => 1) (fun _ => 1) (b - a) 0 (a :: b :: R) (a :: b :: R)
      rw [LF_congr (g := fun x => 1 * ((x - a) * 1) + -1 * ((x - b) * 1)) _ (fun x _ => by grind), e3, e1, e2] at e4
      have hab : b - a ≠ 0 := fun e => ha b (by simp) (by grind)
      have h5 := mul_invF hab
      generalize LF (fun _ => 1) (a :: b :: R) (a :: b :: R) = z at *
      generalize invF (b - a) = u at *
      have e5 : (b - a) * z = b - a := by grind
      have e6 : (b - a) * u * z = (b - a) * u := by grind
      rw [h5] at e6
      grind
def ev : List FQ → FQ → FQ
  | [], _ => 0
  | c :: r, x => c + x * ev r x
def dv (a : FQ) : List FQ → List FQ
  | [] => []
  | [_] => []
  | _ :: c :: r => ev (c :: r) a :: dv a (c :: r)
theorem dv_length (a : FQ) : ∀ p : List FQ, (dv a p).length = p.length - 1
  | [] => rfl
  | [_] => rfl
  | _ :: c :: r => by
    have := dv_length a (c :: r)
    simp only [dv, List.length_cons] at *
    omega
theorem dv_ev (a x : FQ) : ∀ p : List FQ, ev p x = ev p a + (x - a) * ev (dv a p) x
  | [] => by simp only [ev, dv]; grind
  | [c] => by simp only [ev, dv]; grind
  | d :: c :: r => by
    have ih := dv_ev a x (c :: r)
    have e1 : ev (d :: c :: r) x = d + x * ev (c :: r) x := rfl
    have e2 : ev (d :: c :: r) a = d + a * ev (c :: r) a := rfl
    have e3 : ev (dv a (d :: c :: r)) x = ev (c :: r) a + x * ev (dv a (c :: r)) x := rfl
    rw [e1, e2, e3, ih]
    grind
theorem LF_zero (T : List FQ) : ∀ S, LF (fun _ => 0) T S = 0
  | [] => rfl
  | b :: r => by simp only [LF]; rw [LF_zero T r]; grind
theorem lagrange : ∀ (n : Nat) (p S : List FQ), p.length ≤ n → p.length ≤ S.length → 0 < S.length → S.Nodup → LF (ev p) S S = ev p 0
  | n, [], S, _, _, _, _ => by
    exact LF_zero S S
  | n, [c], S, _, _, hS, hn => by
    have h1 := L_one (S.length - 1) S (by omega) hn
    have h2 := LF_lin (fun _ => 1) (fun _ => 1) c 0 S S
    rw [LF_congr (g := fun x => c * 1 + 0 * 1) _ (fun x _ => by simp only [ev]; grind), h2, h1]
    simp only [ev]; grind
  | 0, _ :: _ :: _, _, h, _, _, _ => by simp at h
  | n + 1, d :: c :: r, S, h, hl, hS, hn => by
    match S, hl, hS with
    | a :: S', hl, _ =>
      have hl' : (c :: r).length ≤ S'.length := by simp at hl ⊢; omega
      have ih := lagrange n (dv a (d :: c :: r)) S' (by rw [dv_length]; simp at h ⊢; omega) (by rw [dv_length]; exact hl') (by simp at hl'; omega) (List.nodup_cons.1 hn).2
      have h1 := L_one S'.length (a :: S') rfl hn
      have h2 := L_B a (ev (dv a (d :: c :: r))) S' (fun b hb e => (List.nodup_cons.1 hn).1 (e ▸ hb))
      have h3 := LF_lin (fun _ => 1) (fun x => (x - a) * ev (dv a (d :: c :: r)) x) (ev (d :: c :: r) a) 1 (a :: S') (a :: S')
      have e0 := dv_ev a 0 (d :: c :: r)
      rw [LF_congr (g := fun x => ev (d :: c :: r) a * 1 + 1 * ((x - a) * ev (dv a (d :: c :: r)) x)) _ (fun x _ => by have := dv_ev a x (d :: c :: r); grind), h3, h1, h2, ih, e0]
      grind
end Fk

namespace Go.Proofs.YtaheibbbdglcmaaDoor
open Go.RowKit Fk Sha
/-! The plain law of proofs of equal powers. -/
theorem inv_natQ {a : Nat} (h : a % 1073741789 ≠ 0) : a * (a ^ 1073741787 % 1073741789) % 1073741789 = 1 := by
  have e : 1073741787 = ex2 := rfl
  rw [e, Nat.mul_mod_mod, Nat.mul_comm, ← Nat.pow_succ]
  exact fermat h
/-- the law's inverse modulo Q -/
def invQ (r : Int) : Int := (((r % 1073741789).toNat ^ 1073741787 % 1073741789 : Nat) : Int)
theorem invQ_mul {r : Int} (h : r % 1073741789 ≠ 0) : (r * invQ r) % 1073741789 = 1 := by
  unfold invQ
  obtain ⟨a, ha, hl⟩ : ∃ a : Nat, r % 1073741789 = (a : Int) ∧ a < 1073741789 := ⟨(r % 1073741789).toNat, by omega, by omega⟩
  have h1 := inv_natQ (a := a) (by omega)
  rw [ha]
  have e : ((a : Int)).toNat = a := by omega
  rw [e]
  generalize a ^ 1073741787 % 1073741789 = c at *
  rw [Int.mul_emod, show r % 1073741789 = ((a % 1073741789 : Nat) : Int) by omega, show ((c : Int)) % 1073741789 = ((c % 1073741789 : Nat) : Int) by omega, ← Int.natCast_mul]
  have h2 : a % 1073741789 * (c % 1073741789) % 1073741789 = 1 := by rw [← Nat.mul_mod]; exact h1
  omega
theorem com_split {a d : Int} (ha : vld a = true) (hd : vld d = true) (n s e : Int) (h : d = powC a n) : mulC (powC a s) (powC d (-e)) = powC a (s - n * e) := by
  subst h
  rw [pow_mul' ha, pow_add' ha]
  congr 1
  rw [Int.mul_neg]; omega
theorem nonceK_bd {n a : Int} : 1 ≤ nonceK n a ∧ nonceK n a < 1073741789 := by
  have := hashN_bd (tagged (sb ⟨#[101, 113, 117, 97, 108, 32, 110, 111, 110, 99, 101]⟩) (encL [n, a]))
  unfold nonceK nonceN
  split <;> omega
theorem chalN_bd (key a d r s : Int) : 0 ≤ chalN key a d r s ∧ chalN key a d r s < 1073741789 := hashN_bd _
theorem inO_iff {n : Int} : inO n = true ↔ 0 ≤ n ∧ n < 1073741789 := by simp [inO]
theorem com_prov {b : Int} (hb : vld b = true) (k e n : Int) : mulC (powC b ((k + e * n) % 1073741789)) (powC (powC b n) (-e)) = powC b k := by
  rw [com_split hb (vld_powC hb n) n _ e rfl]
  refine pow_congr' ?_
  have : e * n = n * e := Int.mul_comm _ _
  omega
/-- what is proved is right -/
theorem prov_com {n a : Int} (ha : vld a = true) : comR (powC 4 n) (provP n a) = powC 4 (nonceK n a) ∧ comS a (powC a n) (provP n a) = powC a (nonceK n a) :=
  ⟨com_prov vld_4 _ _ _, com_prov ha _ _ _⟩
theorem prov_form (n a : Int) : inO (provP n a).e = true ∧ inO (provP n a).s = true :=
  ⟨inO_iff.2 (chalN_bd _ _ _ _ _), inO_iff.2 ⟨by show 0 ≤ (_ : Int) % 1073741789; omega, by show (_ : Int) % 1073741789 < 1073741789; omega⟩⟩
theorem prov_right {n a : Int} (ha : vld a = true) : chkB (powC 4 n) a (powC a n) (provP n a) = true := by
  obtain ⟨h1, h2⟩ := prov_com (n := n) ha
  obtain ⟨h3, h4⟩ := prov_form n a
  unfold chkB frm
  rw [h1, h2, h3, h4, vld_powC vld_4 n, ha, vld_powC ha n]
  have : (provP n a).e = chalN (powC 4 n) a (powC a n) (powC 4 (nonceK n a)) (powC a (nonceK n a)) := rfl
  rw [decide_eq_true this]; rfl
/-- the quotient of two products that agree -/
theorem quot_eq {b d : Int} (hb : vld b = true) (hd : vld d = true) {s e t f : Int} (h : mulC (powC b s) (powC d (-e)) = mulC (powC b t) (powC d (-f))) : powC b (s - t) = powC d (e - f) := by
  have h1 := vld_powC hb s
  have h2 := vld_powC hd (-e)
  have h3 := vld_powC hb t
  have h4 := vld_powC hd (-f)
  have h5 := congrArg (fun x => mulC x (powC d e)) h
  rw [mul_assoc' h1 h2 (vld_powC hd e), pow_add' hd, mul_assoc' h3 h4 (vld_powC hd e), pow_add' hd, show -e + e = 0 by omega, pow_0 hd, mul_one' h1] at h5
  have h6 := congrArg (fun x => mulC x (powC b (-t))) h5
  rw [pow_add' hb, mul_comm' h3 (vld_powC hd _), mul_assoc' (vld_powC hd _) h3 (vld_powC hb _), pow_add' hb, show t + -t = 0 by omega, pow_0 hb, mul_one' (vld_powC hd _)] at h6
  rw [show s - t = s + -t by omega, h6]
  congr 1; omega
/-- two answers to one commitment show the exponent -/
theorem sound_one {b d : Int} (hb : vld b = true) (hd : vld d = true) {s e t f : Int} (h : mulC (powC b s) (powC d (-e)) = mulC (powC b t) (powC d (-f))) (hn : (e - f) % 1073741789 ≠ 0) {n x : Int} (hn2 : n % 1073741789 = (e - f) % 1073741789) (hx : x % 1073741789 = ((s - t) * invQ n) % 1073741789) : powC b x = d := by
  have h1 := congrArg (fun x => powC x (invQ n)) (quot_eq hb hd h)
  rw [pow_mul' hb, pow_mul' hd] at h1
  rw [pow_congr' hx, h1, pow_congr' (k := 1), pow_1 hd]
  have h2 := invQ_mul (r := n) (by omega)
  rw [Int.mul_emod, ← hn2, ← Int.mul_emod, h2]
  rfl
/-- with another d the proof commits to something else -/
theorem other_com {a d o : Int} (ha : vld a = true) (hd : vld d = true) (ho : vld o = true) {p : Pf} (he : inO p.e = true) (h0 : p.e ≠ 0) (hne : o ≠ d) : comS a d p ≠ comS a o p := by
  intro h
  unfold comS at h
  obtain ⟨e1, e2⟩ := inO_iff.1 he
  have h1 := vld_powC ha p.s
  have h2 := congrArg (fun x => mulC (powC a (-p.s)) x) h
  rw [← mul_assoc' (vld_powC ha _) h1 (vld_powC hd _), ← mul_assoc' (vld_powC ha _) h1 (vld_powC ho _), pow_add' ha, show -p.s + p.s = 0 by omega, pow_0 ha, one_mul' (vld_powC hd _), one_mul' (vld_powC ho _)] at h2
  have h3 := congrArg (fun x => powC x (invQ (-p.e))) h2
  have h4 := invQ_mul (r := -p.e) (by omega)
  rw [pow_mul' hd, pow_mul' ho, pow_congr' (a := d) (k := 1) (by omega), pow_congr' (a := o) (k := 1) (by omega), pow_1 hd, pow_1 ho] at h3
  exact hne h3.symm
end Go.Proofs.YtaheibbbdglcmaaDoor

set_option linter.unusedSimpArgs false
set_option linter.unusedVariables false
namespace Go.Proofs.YtaheibbbdglcmaaDoor
open Go.RowKit Go.Shelf Fk Sha
/-! CheckBare whole; what Bare makes, in plain words. -/
theorem checkbare_any (key : Int) (l x : List Se) (ps : List Pt) (A1 A2 A3 : Option Addr) (c1 c2 c3 : Nat) (w : World) (hT : TabOK w) (hl : SlS w w.heap.size (.slice A1 l.length c1) l) (hx : SlS w w.heap.size (.slice A2 x.length c2) x) (hp : SlP w w.heap.size (.slice A3 ps.length c3) ps) :
    Calls Tryd.prog 28 #[.int .i64 key, .slice A1 l.length c1, .slice A2 x.length c2, .slice A3 ps.length c3] w fun e w' => e = .returned (.bool (cbB key l x ps)) ∧ Below w.heap.size w w' := by
  unfold cbB
  cases h : cbHd key l x ps.length with
  | false =>
    rw [Bool.false_and]
    exact cb_head key l x ps.length A1 A2 A3 c1 c2 c3 w hl hx h
  | true =>
    rw [Bool.true_and]
    unfold cbHd at h
    simp only [Bool.and_eq_true, decide_eq_true_eq] at h
    obtain ⟨hv, h1, h2, h3, h4⟩ := h
    have := cb_main key l x ps A1 A2 A3 c1 c2 c3 w hT hl (by rw [h1]; exact hx) (by rw [h2]; exact hp) hv h1 h2 h3 h4
    rwa [show Value.slice A2 l.length c2 = Value.slice A2 x.length c2 by rw [h1], show Value.slice A3 l.length c3 = Value.slice A3 ps.length c3 by rw [h2]] at this
/-- one cipher with the key taken off -/
def bareC (n : Int) (_ : Nat) (c : Ci) : Ci := ⟨c.a, mulC c.b (powC (powC c.a n) (-1))⟩
def bareS (n : Int) (s : Se) : Se := s.map (bareC n)
def proofS (n : Int) (s : Se) : Pt := ⟨provP n s.x.a, provP n s.y.a, provP n s.z.a⟩
def bareE (n : Int) (l : List Se) : Int := if secB n then letE l else 110
theorem bareS_get (n : Int) (s : Se) {k : Nat} (hk : k < 3) : (bareS n s).get k = bareC n k (s.get k) := by
  rcases (show k = 0 ∨ k = 1 ∨ k = 2 by omega) with rfl | rfl | rfl <;> rfl
theorem proofS_get (n : Int) (s : Se) {k : Nat} (hk : k < 3) : (proofS n s).get k = provP n (s.get k).a := by
  rcases (show k = 0 ∨ k = 1 ∨ k = 2 by omega) with rfl | rfl | rfl <;> rfl
/-- the cells of letters of which the first j ciphers are made -/
def seF (l : List Se) (m : Nat) : Int := if m % 2 = 0 then ((l.getD (m / 6) default).get (m % 6 / 2)).a else ((l.getD (m / 6) default).get (m % 6 / 2)).b
def ptF (l : List Pt) (m : Nat) : Int := if m % 2 = 0 then ((l.getD (m / 6) default).get (m % 6 / 2)).e else ((l.getD (m / 6) default).get (m % 6 / 2)).s
def cel (f : Nat → Int) (N j : Nat) : List Value := (List.range N).map fun m => .int .i64 (if m < 2 * j then f m else 0)
theorem cel_get (f : Nat → Int) {N j m : Nat} (h : m < N) : (cel f N j)[m]? = some (.int .i64 (if m < 2 * j then f m else 0)) := by
  unfold cel
  rw [List.getElem?_map, List.getElem?_range h]; rfl
theorem cel_length (f : Nat → Int) (N j : Nat) : (cel f N j).length = N := by simp [cel]
theorem cel_set (f : Nat → Int) {N j : Nat} (h : 2 * j + 1 < N) {x y : Int} (hx : x = f (2 * j)) (hy : y = f (2 * j + 1)) : ((cel f N j).set (2 * j) (.int .i64 x)).set (2 * j + 1) (.int .i64 y) = cel f N (j + 1) := by
  subst hx hy
  apply List.ext_getElem?
  intro m
  by_cases hm : m < N
  · rw [cel_get f hm, List.getElem?_set]
    by_cases e1 : 2 * j + 1 = m
    · subst e1
      rw [if_pos rfl, if_pos (by rw [List.length_set, cel_length]; omega), if_pos (by omega)]
    · rw [if_neg e1, List.getElem?_set]
      by_cases e2 : 2 * j = m
      · subst e2
        rw [if_pos rfl, if_pos (by rw [cel_length]; omega), if_pos (by omega)]
      · rw [if_neg e2, cel_get f hm]
        congr 2
        by_cases h3 : m < 2 * j
        · rw [if_pos h3, if_pos (by omega)]
        · rw [if_neg h3, if_neg (by omega)]
  · rw [List.getElem?_eq_none (by rw [List.length_set, List.length_set, cel_length]; omega), List.getElem?_eq_none (by rw [cel_length]; omega)]
theorem cel_zero (f : Nat → Int) (N : Nat) : cel f N 0 = List.replicate N (.int .i64 0) := by
  apply List.ext_getElem?
  intro m
  by_cases hm : m < N
  · rw [cel_get f hm, List.getElem?_replicate, if_pos hm, if_neg (by omega)]
  · rw [List.getElem?_eq_none (by rw [cel_length]; omega), List.getElem?_replicate, if_neg hm]
theorem seF_at (l : List Se) (i k : Nat) (hk : k < 3) : seF l (2 * (3 * i + k)) = ((l.getD i default).get k).a ∧ seF l (2 * (3 * i + k) + 1) = ((l.getD i default).get k).b := by
  unfold seF
  rw [if_pos (by omega), if_neg (by omega), show 2 * (3 * i + k) / 6 = i by omega, show 2 * (3 * i + k) % 6 / 2 = k by omega, show (2 * (3 * i + k) + 1) / 6 = i by omega, show (2 * (3 * i + k) + 1) % 6 / 2 = k by omega]
  exact ⟨rfl, rfl⟩
theorem ptF_at (l : List Pt) (i k : Nat) (hk : k < 3) : ptF l (2 * (3 * i + k)) = ((l.getD i default).get k).e ∧ ptF l (2 * (3 * i + k) + 1) = ((l.getD i default).get k).s := by
  unfold ptF
  rw [if_pos (by omega), if_neg (by omega), show 2 * (3 * i + k) / 6 = i by omega, show 2 * (3 * i + k) % 6 / 2 = k by omega, show (2 * (3 * i + k) + 1) / 6 = i by omega, show (2 * (3 * i + k) + 1) % 6 / 2 = k by omega]
  exact ⟨rfl, rfl⟩
theorem six {j : Nat} (h : j < 6) : j = 0 ∨ j = 1 ∨ j = 2 ∨ j = 3 ∨ j = 4 ∨ j = 5 := by omega
theorem cel_sl {w : World} {b : Nat} {t : TypeId} (l : List Se) (h : Row w b t (cel (seF l) (6 * l.length) (3 * l.length))) (hl : l.length ≤ 1000) {B0 c : Nat} (hB : b < B0) : SlS w B0 (.slice (some ⟨b, 0, none⟩) l.length c) l := by
  refine ⟨by omega, _, c, rfl, fun _ => ⟨b, 0, rfl, hB, fun i hi j hj => ?_⟩⟩
  rw [h.cell, cel_get _ (by omega), if_pos (by omega)]
  have key : ∀ k, k < 3 → seF l (0 + i * 6 + 2 * k) = ((l.getD i default).get k).a ∧ seF l (0 + i * 6 + (2 * k + 1)) = ((l.getD i default).get k).b := fun k hk => by
    have := seF_at l i k hk
    rwa [show 2 * (3 * i + k) = 0 + i * 6 + 2 * k by omega, show 0 + i * 6 + 2 * k + 1 = 0 + i * 6 + (2 * k + 1) by omega] at this
  rcases six hj with rfl | rfl | rfl | rfl | rfl | rfl
  · rw [(key 0 (by omega)).1]; rfl
  · rw [(key 0 (by omega)).2]; rfl
  · rw [(key 1 (by omega)).1]; rfl
  · rw [(key 1 (by omega)).2]; rfl
  · rw [(key 2 (by omega)).1]; rfl
  · rw [(key 2 (by omega)).2]; rfl
theorem cel_slP {w : World} {b : Nat} {t : TypeId} (l : List Pt) (h : Row w b t (cel (ptF l) (6 * l.length) (3 * l.length))) (hl : l.length ≤ 1000) {B0 c : Nat} (hB : b < B0) : SlP w B0 (.slice (some ⟨b, 0, none⟩) l.length c) l := by
  refine ⟨by omega, _, c, rfl, fun _ => ⟨b, 0, rfl, hB, fun i hi j hj => ?_⟩⟩
  rw [h.cell, cel_get _ (by omega), if_pos (by omega)]
  have key : ∀ k, k < 3 → ptF l (0 + i * 6 + 2 * k) = ((l.getD i default).get k).e ∧ ptF l (0 + i * 6 + (2 * k + 1)) = ((l.getD i default).get k).s := fun k hk => by
    have := ptF_at l i k hk
    rwa [show 2 * (3 * i + k) = 0 + i * 6 + 2 * k by omega, show 0 + i * 6 + 2 * k + 1 = 0 + i * 6 + (2 * k + 1) by omega] at this
  rcases six hj with rfl | rfl | rfl | rfl | rfl | rfl
  · rw [(key 0 (by omega)).1]; rfl
  · rw [(key 0 (by omega)).2]; rfl
  · rw [(key 1 (by omega)).1]; rfl
  · rw [(key 1 (by omega)).2]; rfl
  · rw [(key 2 (by omega)).1]; rfl
  · rw [(key 2 (by omega)).2]; rfl
set_option maxRecDepth 100000 in
set_option maxHeartbeats 4000000 in
theorem bare_head (n : Int) (l : List Se) (A1 : Option Addr) (c1 : Nat) (w : World) (hl : SlS w w.heap.size (.slice A1 l.length c1) l) (h : bareE n l ≠ 0) :
    Calls Tryd.prog 32 #[.int .i64 n, .slice A1 l.length c1] w fun e w' => e = .returned (.tuple #[.slice none 0 0, .slice none 0 0, .int .i64 (bareE n l)]) ∧ Below w.heap.size w w' := by
  have m1 := fun w => public_any n w
  have m2 := fun W (hb : Below w.heap.size w W) => letters_any l _ W ((hl.below hb).mono hb.size)
  have hbe : bareE n l = if secB n then letE l else 110 := rfl
  obtain ⟨B, hB0⟩ : ∃ B, bareE n l = B := ⟨_, rfl⟩
  rw [hB0] at h hbe ⊢
  clear hB0
  obtain ⟨W, hW, hB, hz, r2, r4, r5⟩ : ∃ W, (((w.alloc (.cells #[.int .i64 n] 3)).alloc (.cells #[.slice none 0 0] 46)).alloc (.cells #[.slice none 0 0] 47)) = W ∧ Below w.heap.size w W ∧ W.heap.size = w.heap.size + 1 + 1 + 1 ∧
      Row W w.heap.size 3 [.int .i64 n] ∧ Row W (w.heap.size + 1) 46 [.slice none 0 0] ∧ Row W (w.heap.size + 1 + 1) 47 [.slice none 0 0] :=
    ⟨_, rfl, (((Below.refl _ _).alloc (Nat.le_refl _) _).alloc (by simp) _).alloc (by simp; omega) _, by simp, ((Row.new w _ [.int .i64 n]).alloc _).alloc _, (row_size (by simp) _ [.slice none 0 0]).alloc _, row_size (by simp) _ [.slice none 0 0]⟩
  have fin : ∀ W' : World, Below W.heap.size W W' → (∃ p4 p5, ((W'.setCell ⟨w.heap.size + 1, 0, none⟩ (.slice none 0 0)).setCell ⟨w.heap.size + 1 + 1, 0, none⟩ (.slice none 0 0)).cell? ⟨w.heap.size + 1, 0, none⟩ = some p4 ∧ ((W'.setCell ⟨w.heap.size + 1, 0, none⟩ (.slice none 0 0)).setCell ⟨w.heap.size + 1 + 1, 0, none⟩ (.slice none 0 0)).cell? ⟨w.heap.size + 1 + 1, 0, none⟩ = some p5 ∧ p4 = .slice none 0 0 ∧ p5 = .slice none 0 0) ∧
      Below w.heap.size w ((W'.setCell ⟨w.heap.size + 1, 0, none⟩ (.slice none 0 0)).setCell ⟨w.heap.size + 1 + 1, 0, none⟩ (.slice none 0 0)) := fun W' hb => by
    have q4 := Row.other (Row.store (r4.below hb r4.lt) 0 (.slice none 0 0)) (p := ⟨w.heap.size + 1 + 1, 0, none⟩) (Nat.ne_of_lt (Nat.lt_succ_self _)) (.slice none 0 0)
    have q5 := Row.store (Row.other (r5.below hb r5.lt) (p := ⟨w.heap.size + 1, 0, none⟩) (Nat.ne_of_gt (Nat.lt_succ_self _)) (.slice none 0 0)) 0 (.slice none 0 0)
    exact ⟨⟨_, _, st1c q4, st1c q5, rfl, rfl⟩, ((hB.trans (hb.mono hB.size)).setCell (p := ⟨w.heap.size + 1, 0, none⟩) (Nat.le_succ _) _).setCell (p := ⟨w.heap.size + 1 + 1, 0, none⟩) (Nat.le_trans (Nat.le_succ _) (Nat.le_succ _)) _⟩
  have FIN := Lib.hid fin
  have hbb := Below.refl W.heap.size W
  clear fin
  cases hs : secB n with
  | false =>
    rw [hs, if_neg (by decide)] at hbe
    subst hbe
    rw [show pubC n = 0 by unfold pubC; rw [hs]; rfl, show pubE n = 110 by unfold pubE; rw [hs]; rfl] at m1
    have M1 := Lib.hid m1
    have k2 := st1c r2
    have k4 := st1c r4
    have k5 := st1c r5
    have y4 := r4.frozen 0
    have y5 := r5.frozen 0
    clear m1 m2 hl h hs
    go_enter Tryd.func32, Tryd.ntmps32
    go_upto_region 3 with (go_at_call 26; (with_reducible refine (M1.out _).mono ?_); rintro e w1 ⟨rfl, hb⟩; replace hbb := hbb.trans (hb.mono hbb.size); replace r4 := r4.below hbb r4.lt; replace r5 := r5.below hbb r5.lt; clear k2 k4 k5 y4 y5; have k4 := st1c r4; have k5 := st1c r5; have y4 := r4.frozen 0; have y5 := r5.frozen 0)
    go_wp2_with fail
    obtain ⟨⟨p4, p5, e4, e5, rfl, rfl⟩, hBf⟩ := FIN.out _ hbb
    exact bodyPost_ret (v := .tuple #[.slice none 0 0, .slice none 0 0, .int .i64 110]) (by simp [results, Tryd.results32, go_sem, e4, e5]) rfl ⟨rfl, hBf⟩
  | true =>
    rw [hs, if_pos rfl] at hbe
    rw [pubE_0 hs] at m1
    rw [← hbe] at m2
    obtain ⟨K, hK⟩ : ∃ K, pubC n = K := ⟨_, rfl⟩
    rw [hK] at m1
    have M1 := Lib.hid m1
    have M2 := Lib.hid m2
    have hq : (B != 0) = true := by simp [h]
    have k2 := st1c r2
    have k4 := st1c r4
    have k5 := st1c r5
    have y4 := r4.frozen 0
    have y5 := r5.frozen 0
    have HBB := Lib.hid hB
    clear m1 m2 hl h hs hK hbe hB
    go_enter Tryd.func32, Tryd.ntmps32
    go_upto_region 6 with (first
      | (go_at_call 26; (with_reducible refine (M1.out _).mono ?_); rintro e w1 ⟨rfl, hb⟩; replace hbb := hbb.trans (hb.mono hbb.size); replace r4 := r4.below hb r4.lt; replace r5 := r5.below hb r5.lt; clear k2 k4 k5 y4 y5 hb; have k4 := st1c r4; have k5 := st1c r5; have y4 := r4.frozen 0; have y5 := r5.frozen 0)
      | (go_at_call 56; (with_reducible refine (M2.out _ (HBB.out.trans (hbb.mono HBB.out.size))).mono ?_); rintro e w2 ⟨rfl, hb⟩; replace hbb := hbb.trans (hb.mono hbb.size); replace r4 := r4.below hb r4.lt; replace r5 := r5.below hb r5.lt; clear k4 k5 y4 y5 hb; have k4 := st1c r4; have k5 := st1c r5; have y4 := r4.frozen 0; have y5 := r5.frozen 0))
    go_wp2_with fail
    obtain ⟨⟨p4, p5, e4, e5, rfl, rfl⟩, hBf⟩ := FIN.out _ hbb
    exact bodyPost_ret (v := .tuple #[.slice none 0 0, .slice none 0 0, .int .i64 B]) (by simp [results, Tryd.results32, go_sem, e4, e5]) rfl ⟨rfl, hBf⟩
end Go.Proofs.YtaheibbbdglcmaaDoor
