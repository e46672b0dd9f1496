import Derived.Test.YtlbnbginippjfaaElW
import Derived.Test.YtlbnbginippjfaaLawL6
import Derived.Deep.Cut
import Derived.Deep.CutRange
set_option linter.unusedSimpArgs false
set_option linter.unusedVariables false
namespace Go.Proofs.Ytlbnbginippjfaa
open Go.RowKit Go.WideShapes Go.ChangeShapes Go.Deep Fk
def encT (t : Tr) : List Value := t.cells
def encU (n : Int) : List Value := [.int .u8 n]
theorem rightB_len {l : List Int} (h : rightB l = true) : l.length ≤ 5 := by
  unfold rightB at h
  simp only [Bool.and_eq_true, decide_eq_true_eq] at h
  exact h.2
theorem own_mono {W : World} {base base' : Nat} {e : TypeId} {size : Nat} {v : Value} {n : Nat} {xs : List Value} (h : W.ownsRow base' e size v n xs) (hb : base ≤ base') : W.ownsRow base e size v n xs :=
  ⟨h.1, h.2.elim Or.inl (fun ⟨g, c, u, h1, h2, h3⟩ => Or.inr ⟨g, c, u, h1, Nat.le_trans hb h2, h3⟩)⟩
theorem news_ad {W : World} {B0 c : Nat} {ad : Addr} {l : List Int} (h : SlI W B0 (.slice (some ad) l.length c) l) : ∀ j u, (l.flatMap encI)[j]? = some u → W.cell? (ad.add j) = some u := by
  intro j u hu
  have hl : 1 ≤ l.length := by
    have h1 := (List.getElem?_eq_some_iff.1 hu).1
    rw [flat_int, List.length_map] at h1
    omega
  have h' := h
  obtain ⟨_, A', c', hv, hE⟩ := h
  obtain ⟨b', off', rfl, _, _⟩ := hE hl
  cases hv
  exact news_at h' hl 0 l (fun j hj => ⟨by omega, by rw [Nat.zero_add]⟩) j u hu
/-- the state of the loop: the letter S in block G, the secrets left L in the slice v -/
structure OI (w : World) (G : Nat) (t : Tr) (S : Se) (L : List Int) (v : Value) (W : World) : Prop where
  z : w.heap.size + 1 < G
  own : W.ownsRow (G + 1) 3 1 v L.length (L.flatMap encI)
  row : Row W G 34 S.cells
  b : Below w.heap.size w W
  p : Row W w.heap.size 30 t.cells
theorem OI.below {w W W' : World} {G : Nat} {t : Tr} {S : Se} {L : List Int} {v : Value} (h : OI w G t S L v W) (hb : Below W.heap.size W W') : OI w G t S L v W' :=
  ⟨h.z, h.own.kept (grown_below hb none) (Classical.em _), h.row.below hb h.row.lt, h.b.trans (hb.mono h.b.size), h.p.below hb h.p.lt⟩
theorem OI.put {w W : World} {G : Nat} {t : Tr} {S : Se} {L : List Int} {v : Value} (h : OI w G t S L v W) (D : Se) :
    OI w G t D L v ((((((W.setCell ⟨G, 0, none⟩ (.int .i64 D.x.a)).setCell ⟨G, 1, none⟩ (.int .i64 D.x.b)).setCell ⟨G, 2, none⟩ (.int .i64 D.y.a)).setCell ⟨G, 3, none⟩ (.int .i64 D.y.b)).setCell ⟨G, 4, none⟩ (.int .i64 D.z.a)).setCell ⟨G, 5, none⟩ (.int .i64 D.z.b)) := by
  have hz : w.heap.size ≤ G := by have := h.z; omega
  have hl : w.heap.size ≠ G := by have := h.z; omega
  have hG : G < G + 1 := Nat.lt_succ_self G
  refine ⟨h.z, ?_, ?_, (((((h.b.setCell hz _).setCell hz _).setCell hz _).setCell hz _).setCell hz _).setCell hz _, ?_⟩
  · exact ownsRow_setCell_below (ownsRow_setCell_below (ownsRow_setCell_below (ownsRow_setCell_below (ownsRow_setCell_below (ownsRow_setCell_below h.own hG _) hG _) hG _) hG _) hG _) hG _
  · exact Row.store (Row.store (Row.store (Row.store (Row.store (Row.store h.row 0 _) 1 _) 2 _) 3 _) 4 _) 5 _
  · exact Row.oth (Row.oth (Row.oth (Row.oth (Row.oth (Row.oth h.p hl _) hl _) hl _) hl _) hl _) hl _
set_option maxRecDepth 100000 in
set_option maxHeartbeats 4000000 in
theorem opens_main (l : List Int) (A0 : Option Addr) (c : Nat) (t r : Tr) (m : List Tr) (A3 : Option Addr) (c3 : Nat) (o : List Int) (A4 : Option Addr) (c4 : Nat) (w : World) (h : SlI w w.heap.size (.slice A0 l.length c) l) (hok : rightB l = true) (hw : wOK t = true) (hc1 : l.length ≤ c) (hc2 : c ≤ maxLen)
    (h3 : SlG 3 encT w w.heap.size (.slice A3 m.length c3) m) (hm : m.length ≤ 4) (h4 : SlG 1 encU w w.heap.size (.slice A4 o.length c4) o) (ho : ∀ i, i < o.length → 0 ≤ o.getD i default ∧ o.getD i default ≤ 255) :
    Calls Try.prog 5 #[.slice A0 l.length c, t.val, r.val, .slice A3 m.length c3, .slice A4 o.length c4] w fun e w' => e = .returned (.bool true) ∧ Below w.heap.size w w' := by
  have hl5 := rightB_len hok
  have HS := Lib.hid h
  have H3 := Lib.hid h3
  have H4 := Lib.hid h4
  have HO := Lib.hid ho
  have HOK := Lib.hid hok
  have HW := Lib.hid hw
  have c2 := fun w => words_any t w
  rw [hw] at c2
  have c1 := fun (W : World) (B0 : Nat) (h : SlI W B0 (.slice A0 l.length c) l) => right_any l _ W B0 h
  rw [hok] at c1
  have H1 := Lib.hid c1
  have H2 := Lib.hid c2
  have k1 := fun (W : World) (h : SlI W W.heap.size (.slice A0 l.length c) l) => keys_any l _ W h hok
  have m1 := fun w => ls_seal l hw r w
  obtain ⟨ja, hja⟩ : ∃ ja, joinC (pubs l) = ja := ⟨_, rfl⟩
  rw [hja] at m1 k1
  obtain ⟨A, hA⟩ : ∃ A, LS l t r = A := ⟨_, rfl⟩
  rw [hA] at m1
  unfold Se.val Tr.val at m1
  have K1 := Lib.hid k1
  have M1 := Lib.hid m1
  have HA := Lib.hid hA
  clear c1 c2 h h3 h4 ho hok hw k1 m1 hja hA
  unfold Tr.val
  unfold maxLen at hc2
  obtain ⟨i0, hi, hz0, hz1, hz2⟩ := info_parts infoI4
  go_enter Try.func5, Try.ntmps5
  go_upto_region 9 with (first
    | (go_at_call 11; (with_reducible refine (sane10 _).mono ?_); rintro e w1 ⟨rfl, hb⟩; obtain ⟨hB, hz, p0, p1⟩ := stepP2 hb; clear hb; obtain ⟨q0, q1, q2⟩ := st3 p0; obtain ⟨r0, r1, r2⟩ := st3 p1)
    | (go_at_call 20; refine (H1.out _ _ (HS.out.below hB)).mono ?_; rintro e wq ⟨rfl, rfl⟩)
    | (go_at_call 21; refine (H2.out _).mono ?_; rintro e w3 ⟨rfl, hb⟩; obtain ⟨hB, hzn, hk⟩ := step0 hB hb; replace hz := lt_t hz hzn; replace p0 := hk _ _ _ p0; replace p1 := hk _ _ _ p1; clear hb hk hzn q0 q1 q2 r0 r1 r2; obtain ⟨q0, q1, q2⟩ := st3 p0; obtain ⟨r0, r1, r2⟩ := st3 p1)
    | (go_at_call 22; (with_reducible refine (K1.out _ ((HS.out.below hB).mono hB.size)).mono ?_); rintro e w6 ⟨v6, rfl, hb⟩; obtain ⟨hB, hzn, hk⟩ := step0 hB hb; replace hz := lt_t hz hzn; replace p0 := hk _ _ _ p0; replace p1 := hk _ _ _ p1; clear hzn hk hb; clear q0 q1 q2 r0 r1 r2; obtain ⟨q0, q1, q2⟩ := st3 p0; obtain ⟨r0, r1, r2⟩ := st3 p1)
    | (go_at_call 16; (with_reducible refine (M1.out _).mono ?_); rintro e w8 ⟨rfl, hb⟩; obtain ⟨hB, hzn, hk⟩ := step0 hB hb; replace hz := lt_t hz hzn; replace p0 := hk _ _ _ p0; clear hzn hk hb p1; clear q0 q1 q2 r0 r1 r2))
  have g1 := Row.new w8 34 A.cells
  have hBa := hB.alloc hB.size (.cells A.cells.toArray 34)
  have p0a := p0.alloc (.cells A.cells.toArray 34)
  have hGz : (w8.alloc (.cells A.cells.toArray 34)).heap.size = w8.heap.size + 1 := by simp
  have hS1 := HS.out.below hBa
  have hzG := hB.size
  show Code.wp _ _ _ _ (w8.alloc (.cells A.cells.toArray 34))
  obtain ⟨W1, hW1⟩ : ∃ W1 : World, w8.alloc (.cells A.cells.toArray 34) = W1 := ⟨_, rfl⟩
  rw [hW1] at g1 hBa p0a hGz hS1 ⊢
  clear hW1 hB p0
  generalize w8.heap.size = G at *
  have hoe : (W1.alloc (.cells #[] 3)).ownsRow (G + 1) 3 1 (.slice (some ⟨G + 1, 0, none⟩) 0 0) 0 [] := by
    rw [← hGz]; exact own_empty W1 3
  have hSa := HS.out.below (hBa.alloc hBa.size (.cells #[] 3))
  go_cut [16] from 58 to 60 (fun v W' => OI w G t A l v W')
  case first =>
    cases A0 with
    | none =>
      obtain rfl : l = [] := by
        obtain ⟨_, A', c', hv, hE⟩ := hSa
        cases l with
        | nil => rfl
        | cons x l => obtain ⟨b', off', rfl, _, _⟩ := hE (by simp); cases hv
      go_wp2_with fail
      go_meet
      case rel => exact ⟨hz, hoe, g1.alloc _, hBa.alloc hBa.size _, p0a.alloc _⟩
    | some ad =>
      go_wp2_with (at_builtin; refine wpList_append_own _ rfl _ _ 22 rfl (G + 1) 3 i0 (.int .i64 0) 1 8 Try.underlying22 hi hz0 hz1 hz2 rfl (by decide) _ 0 [] rfl hoe ad l.length c (l.flatMap encI) rfl (by rw [flat_int]; simp) (news_ad hSa) (fun u hu => by rw [flat_int] at hu; obtain ⟨x, _, rfl⟩ := List.mem_map.1 hu; rfl) (by unfold maxLen; omega) (by omega) (by simp; omega) ?_; intro v1 w5 hown hgrow _)
      go_meet
      case rel =>
        have hgz := hgrow.size
        simp at hgz
        refine ⟨hz, by simpa using hown, Row.keep (g1.alloc _) (hgrow.block G (by simp; omega) (by intro e; have e : some G = some (G + 1) := e; injection e with e; omega)), (hBa.alloc hBa.size _).grown hgrow (by have := hBa.size; simp; omega) (fun r e => by have e : some (G + 1) = some r := e; injection e with e; omega), Row.keep (p0a.alloc _) (hgrow.block _ (by simp; omega) (by intro e; have e : some w.heap.size = some (G + 1) := e; injection e with e; omega))⟩
  clear hoe hSa hS1 g1 p0a hBa hGz hz
  go_wp2_with fail
  go_loopg [16, 17] (l.length + m.length) (fun gk lv iv wr => ∃ (L : List Int) (q : Tr) (k : Nat), iv = .int .i64 k ∧ gk = L.length + (m.length - k) ∧ k + gk ≤ 9 ∧ rightB L = true ∧ OI w G t (LS L t q) L lv wr)
  case atStart => exact ⟨l, r, 0, rfl, by omega, by omega, HOK.out, by rw [HA.out]; exact hcut⟩
  case round =>
    clear hcut
    obtain ⟨L, q, k, rfl, hg, hk9, hokL, hI⟩ := hrel
    have hL5 := rightB_len hokL
    have hm4 := hm
    have hk9' : k ≤ 9 := by omega
    have hIH := Lib.hid hI
    obtain ⟨_, A', c', rfl, _⟩ := own_slI hI.own (fun _ => rfl) rfl (by omega)
    go_upto_region 11 with fail
    go_cut [69] from 61 to 133 (fun v W' => v = .bool (decide (0 < L.length ∨ k < m.length)) ∧ W' = wr)
    case first =>
      by_cases hLp : 0 < L.length
      · go_wp2_with fail
        go_meet
        case rel => exact ⟨by simp [hLp], rfl⟩
      · by_cases hkm : k < m.length
        · go_wp2_with fail
          go_meet
          case rel => exact ⟨by simp [hkm], rfl⟩
        · go_wp2_with fail
          go_meet
          case rel => exact ⟨by simp [hLp, hkm], rfl⟩
    case rest =>
      obtain ⟨rfl, rfl⟩ := hcut
      by_cases hend : 0 < L.length ∨ k < m.length
      · rw [decide_eq_true hend]
        go_upto_if 75 with fail
        go_cut [] from 61 to 133 (fun W' => ∃ q', OI w G t (LS L t q') L (.slice A' L.length c') W')
        case first =>
          by_cases hkm : k < m.length
          · have hsl := own_slI (l := L) hI.own (fun _ => rfl) rfl (by omega)
            have kk := keys_any L _ wc hsl hokL
            have mm := fun w => ls_again L HW.out q (m.getD k default) w
            have gL := hI.row
            have hz := hI.z
            obtain ⟨ja2, hja2⟩ : ∃ j, joinC (pubs L) = j := ⟨_, rfl⟩
            obtain ⟨B, hB'⟩ : ∃ B, LS L t q = B := ⟨_, rfl⟩
            obtain ⟨D, hD'⟩ : ∃ D, LS L t (sumT q (m.getD k default)) = D := ⟨_, rfl⟩
            rw [hja2] at kk mm
            rw [hB', hD'] at mm
            rw [hB'] at gL hI
            obtain ⟨x, hx⟩ : ∃ x, m.getD k default = x := ⟨_, rfl⟩
            rw [hx] at mm
            unfold Se.val Tr.val at mm
            obtain ⟨b3, o3, rfl, hcm⟩ : ∃ b3 o3, A3 = some ⟨b3, o3, none⟩ ∧ ∀ W', Below w.heap.size w W' → W'.cell? ⟨b3, o3 + k * 3, none⟩ = some (.int .i64 x.p) ∧ W'.cell? ⟨b3, o3 + k * 3 + 1, none⟩ = some (.int .i64 x.q) ∧ W'.cell? ⟨b3, o3 + k * 3 + 2, none⟩ = some (.int .i64 x.r) := by
              obtain ⟨_, A', c', hv, hE⟩ := H3.out
              cases hv
              obtain ⟨b3, o3, rfl, hb3, hE⟩ := hE (by omega)
              refine ⟨b3, o3, rfl, fun W' hB' => ?_⟩
              have e := (hE.keep (hB'.block _ hb3)) k hkm
              rw [hx] at e
              exact ⟨e 0 (by omega), e 1 (by omega), e 2 (by omega)⟩
            have KK := Lib.hid kk
            have MM := Lib.hid mm
            have HD := Lib.hid hD'
            have HC := Lib.hid hcm
            clear kk mm hja2 hD' hcm gL
            go_upto_region 15 with (go_at_call 22; (with_reducible refine KK.out.mono ?_); rintro e wk ⟨vk, rfl, hbk⟩; replace hI := hI.below hbk)
            go_cut [15] from 61 to 133 (fun e W' => e = .int .i64 0 ∧ OI w G t D L (.slice A' L.length c') W')
            case first =>
              obtain ⟨c0, c1, c2, c3, c4, c5⟩ := st6 hI.row
              obtain ⟨d0, d1, d2⟩ := HC.out wk hI.b
              have x1 : (0 : Int) ≤ k := by omega
              have x2 : (k : Int) < m.length := by omega
              have hGr := hI.row.lt
              go_region_with (go_at_call 18; (with_reducible refine (MM.out _).mono ?_); rintro e w9 ⟨rfl, hb⟩; have h9 := hI.below (zb hb); have hzz := h9.row.lt; obtain ⟨z0, z1, z2, z3, z4, z5⟩ := st6 h9.row; have y0 := Row.frozen h9.row 0; have y1 := Row.frozen h9.row 1; have y2 := Row.frozen h9.row 2; have y3 := Row.frozen h9.row 3; have y4 := Row.frozen h9.row 4; have y5 := Row.frozen h9.row 5; have h10 := h9.put D)
              all_goals
                clear z0 z1 z2 z3 z4 z5 y0 y1 y2 y3 y4 y5
                go_wp2_with fail
                go_meet
                case rel => exact ⟨rfl, h10⟩
            case rest =>
              obtain ⟨rfl, hI'⟩ := hcut
              go_wp2_with fail
              go_meet
              case rel => exact ⟨sumT q (m.getD k default), by rw [HD.out]; exact hI'⟩
          · go_wp2_with fail
            go_meet
            case rel => exact ⟨q, hI⟩
        case rest =>
          obtain ⟨q', hI'⟩ := hcut
          clear hIH hI
          have hw2 : IntKind.i64.wrap ((k : Int) + 1) = ((k + 1 : Nat) : Int) := by rw [IntWalk.i64_in _ (by omega)]; omega
          have HW2 := Lib.hid hw2
          clear hw2
          by_cases hLp : 0 < L.length
          · obtain ⟨g, rfl, hcap1, hcap2⟩ : ∃ g, A' = some ⟨g, 0, none⟩ ∧ L.length ≤ c' ∧ c' ≤ maxLen := by
              rcases hI'.own.2 with ⟨h, h0⟩ | ⟨g, cap, cur, h, hb, hg, hnc, hc, hcs, ht⟩
              · omega
              · injection h with e1 e2 e3
                exact ⟨g, e1, by omega, by omega⟩
            unfold maxLen at hcap2
            have hms : L.length - 1 + (m.length - (k + 1)) < gk ∧ k + 1 + (L.length - 1 + (m.length - (k + 1))) ≤ 9 := by omega
            have HMS := Lib.hid hms
            clear hms
            have hlz : (L.length : Int) ≠ 0 := by omega
            have hlz2 : ((L.length : Int) == 0) = false := beq_eq_false_iff_ne.2 hlz
            go_upto_if 104 with fail
            go_cut [21] from 61 to 133 (fun v W' => W' = wc ∧ ∃ k0 : Nat, v = .int .i64 k0 ∧ k0 < L.length)
            case first =>
              by_cases hko : k < o.length
              · obtain ⟨b4, o4, rfl, d0⟩ : ∃ b4 o4, A4 = some ⟨b4, o4, none⟩ ∧ wc.cell? ⟨b4, o4 + k, none⟩ = some (.int .u8 (o.getD k default)) := by
                  obtain ⟨_, A2, c2, hv, hE⟩ := H4.out
                  cases hv
                  obtain ⟨b4, o4, rfl, hb4, hE⟩ := hE (by omega)
                  refine ⟨b4, o4, rfl, ?_⟩
                  have e := (hE.keep (hI'.b.block _ hb4)) k hko 0 (by omega)
                  rw [Nat.mul_one, Nat.add_zero] at e
                  exact e
                obtain ⟨y1, y2⟩ := HO.out k hko
                obtain ⟨y, hy⟩ : ∃ y, o.getD k default = y := ⟨_, rfl⟩
                rw [hy] at d0 y1 y2
                obtain ⟨k0, hk0, hk1⟩ : ∃ k0 : Nat, y % (L.length : Int) = k0 ∧ k0 < L.length := ⟨(y % (L.length : Int)).toNat, by have := Int.emod_nonneg y hlz; omega, by have := Int.emod_lt_of_pos y (show (0 : Int) < L.length by omega); have := Int.emod_nonneg y hlz; omega⟩
                have x1 : (0 : Int) ≤ k := by omega
                have x2 : (k : Int) < o.length := by omega
                go_wp2_with fail
                go_meet
                case rel => exact ⟨rfl, k0, by rw [← hk0], hk1⟩
              · go_wp2_with fail
                go_meet
                case rel => exact ⟨rfl, 0, rfl, hLp⟩
            case rest =>
              obtain ⟨rfl, k0, rfl, hk0⟩ := hcut
              have mm := fun w => ls_strip hokL hk0 HW.out q' w
              obtain ⟨B, hB'⟩ : ∃ B, LS L t q' = B := ⟨_, rfl⟩
              obtain ⟨D, hD'⟩ : ∃ D, LS (L.take k0 ++ L.drop (k0 + 1)) t q' = D := ⟨_, rfl⟩
              rw [hB', hD'] at mm
              rw [hB'] at hI'
              have dk : wc.cell? ⟨g, k0, none⟩ = some (.int .i64 (L.getD k0 default)) := by
                obtain ⟨_, A2, c2, hv, hE⟩ := own_slI (l := L) hI'.own (fun _ => rfl) rfl (by omega)
                obtain ⟨b', off', hA2, hb, hE⟩ := hE hLp
                rw [hA2] at hv
                injection hv with hv _ _
                injection hv with hv
                injection hv with hv1 hv2 _
                have d := hE.int hk0
                rw [← hv1, ← hv2, Nat.zero_add] at d
                exact d
              obtain ⟨x, hx⟩ : ∃ x, L.getD k0 default = x := ⟨_, rfl⟩
              rw [hx] at mm dk
              unfold Se.val at mm
              have MM := Lib.hid mm
              have HD := Lib.hid hD'
              clear mm hD'
              go_upto_region 22 with fail
              go_cut [15] from 61 to 133 (fun e W' => e = .int .i64 0 ∧ OI w G t D L (.slice (some ⟨g, 0, none⟩) L.length c') W')
              case first =>
                obtain ⟨c0, c1, c2, c3, c4, c5⟩ := st6 hI'.row
                have x1 : (0 : Int) ≤ k0 := by omega
                have x2 : (k0 : Int) < L.length := by omega
                have hGr := hI'.row.lt
                go_region_with (go_at_call 23; (with_reducible refine (MM.out _).mono ?_); rintro e w9 ⟨rfl, hb⟩; have h9 := hI'.below (zb hb); have hzz := h9.row.lt; obtain ⟨z0, z1, z2, z3, z4, z5⟩ := st6 h9.row; have y0 := Row.frozen h9.row 0; have y1 := Row.frozen h9.row 1; have y2 := Row.frozen h9.row 2; have y3 := Row.frozen h9.row 3; have y4 := Row.frozen h9.row 4; have y5 := Row.frozen h9.row 5; have h10 := h9.put D)
                all_goals
                  clear z0 z1 z2 z3 z4 z5 y0 y1 y2 y3 y4 y5
                  go_wp2_with fail
                  go_meet
                  case rel => exact ⟨rfl, h10⟩
              case rest =>
                obtain ⟨rfl, hI2⟩ := hcut
                clear dk hI' MM
                go_upto_region 25 with fail
                refine wp_region_ord 10 [(1, 1), (1, 2), (1, 3), (1, 5), (1, 6), (1, 7), (1, 8), (2, 0), (2, 4), (2, 9)]
                  (fun _ => True) (by kernel_rfl) (by kernel_rfl) (fun _ _ d _ _ h => by cases d <;> exact h) trivial ?_
                obtain ⟨W1, hW1⟩ : ∃ W1 : World, wc.drew = W1 := ⟨_, rfl⟩
                have hI2 : OI w G t D L (.slice (some ⟨g, 0, none⟩) L.length c') W1 := hW1 ▸ hI2.below (Below.refl _ _).drew
                rw [hW1]
                have hS1 : SlI W1 W1.heap.size (.slice (some ⟨g, 0, none⟩) L.length c') L := own_slI hI2.own (fun _ => rfl) rfl (by omega)
                have hB1 := hI2.b
                have hgG := hI2.row.lt
                have g0 := hI2.row
                have p0 := hI2.p
                have hz := hI2.z
                have hw1 : IntKind.i64.wrap ((k0 : Int) + 1) = ((k0 + 1 : Nat) : Int) := by rw [IntWalk.i64_in _ (by omega)]; omega
                have hkc : k0 ≤ c' := by omega
                obtain ⟨ad, had, had2⟩ : ∃ ad : Addr, (if c' = k0 + 1 then some (⟨g, 0, none⟩ : Addr) else some ⟨g, 0 + (k0 + 1), none⟩) = some ad ∧ (k0 + 1 < L.length → ad = ⟨g, 0 + (k0 + 1), none⟩) := by
                  by_cases e : c' = k0 + 1
                  · exact ⟨_, if_pos e, fun h => by omega⟩
                  · exact ⟨_, if_neg e, fun _ => rfl⟩
                rw [Nat.zero_add] at had had2
                clear hI2 hW1
                iterate 2
                  refine wpOrd_take (v := ?_) rfl (by rfl) (fun w hSw => ?_) ?_
                  rotate_left 1
                  · go_simp
                    with_reducible rfl
                  simp only [Act.put, List.setIfInBounds_toArray, List.set_cons_zero, List.set_cons_succ]
                refine wpOrd_take (v := .slice (some ⟨g, 0, none⟩) k0 c') rfl (by rfl) (fun w hSw => ?_) ?_
                · go_simp
                simp only [Act.put, List.setIfInBounds_toArray, List.set_cons_zero, List.set_cons_succ]
                iterate 2
                  refine wpOrd_take (v := ?_) rfl (by rfl) (fun w hSw => ?_) ?_
                  rotate_left 1
                  · go_simp
                    with_reducible rfl
                  simp only [Act.put, List.setIfInBounds_toArray, List.set_cons_zero, List.set_cons_succ]
                refine wpOrd_take (v := .int .i64 ((k0 + 1 : Nat) : Int)) rfl (by rfl) (fun w hSw => ?_) ?_
                · go_simp
                simp only [Act.put, List.setIfInBounds_toArray, List.set_cons_zero, List.set_cons_succ]
                refine wpOrd_take (v := .slice (some ad) (L.length - (k0 + 1)) (c' - (k0 + 1))) rfl (by rfl) (fun w hSw => ?_) ?_
                · go_simp
                  intro hx; exact absurd (hx (by omega)) (by omega)
                simp only [Act.put, List.setIfInBounds_toArray, List.set_cons_zero, List.set_cons_succ]
                refine wpOrd_step rfl (fun K hK => ⟨by rfl, ?_⟩)
                go_simp
                refine hK _ _ trivial ?_
                clear hK K
                refine wpOrd_step rfl (fun K hK => ⟨by rfl, ?_⟩)
                refine wp_append_own _ _ _ 22 rfl W1.heap.size 3 i0 (.int .i64 0) 1 8 Try.underlying22 hi hz0 hz1 hz2 rfl (by decide) _ 0 [] rfl (own_empty _ _) ⟨g, 0, none⟩ k0 c' ((L.take k0).flatMap encI) rfl (by rw [flat_int]; simp; omega) (fun j u hu => news_at (hS1.below ((Below.refl _ W1).alloc (Nat.le_refl _) _)) (by omega) 0 (L.take k0) (fun j hj => by rw [List.length_take] at hj; exact ⟨by omega, by rw [Nat.zero_add, List.getD_eq_getElem?_getD, List.getD_eq_getElem?_getD, List.getElem?_take_of_lt (by omega)]⟩) j u hu)
                  (fun u hu => by rw [flat_int] at hu; obtain ⟨x, _, rfl⟩ := List.mem_map.1 hu; rfl) (by unfold maxLen; omega) (by omega) (by simp) ?_
                intro v1 w4 hown hgrow _
                have hC4 : Below W1.heap.size W1 w4 := ((Below.refl W1.heap.size W1).alloc (Nat.le_refl _) _).grown hgrow (by simp) (fun r e => by cases e; exact Nat.le_refl _)
                refine hK _ _ trivial ?_
                clear hK K
                simp only [Act.put, List.setIfInBounds_toArray, List.set_cons_zero, List.set_cons_succ]
                refine wpOrd_step rfl (fun K hK => ⟨by rfl, ?_⟩)
                have hz4 := hC4.size
                refine wp_append_own _ _ _ 22 rfl W1.heap.size 3 i0 (.int .i64 0) 1 8 Try.underlying22 hi hz0 hz1 hz2 rfl (by decide) _ _ _ rfl hown ad (L.length - (k0 + 1)) (c' - (k0 + 1)) ((L.drop (k0 + 1)).flatMap encI) rfl (by rw [flat_int]; simp) (fun j u hu => ?news) (fun u hu => by rw [flat_int] at hu; obtain ⟨x, _, rfl⟩ := List.mem_map.1 hu; rfl) (by unfold maxLen; omega) (by omega) (by omega) ?_
                case news =>
                  have hlt : k0 + 1 < L.length := by
                    rw [flat_int] at hu
                    have := (List.getElem?_eq_some_iff.1 hu).1
                    simp at this
                    omega
                  rw [had2 hlt]
                  have := news_at (hS1.below hC4) (by omega) (k0 + 1) (L.drop (k0 + 1)) (fun j hj => by rw [List.length_drop] at hj; exact ⟨by omega, by rw [List.getD_eq_getElem?_getD, List.getD_eq_getElem?_getD, List.getElem?_drop]⟩) j u hu
                  rwa [Nat.zero_add] at this
                intro v2 w5 hown2 hgrow2 _
                have hC5 : Below W1.heap.size W1 w5 := hC4.grown hgrow2 hC4.size (fun r e => (hown.lt r e).1)
                refine hK _ _ trivial ?_
                clear hK K
                simp only [Act.put, List.setIfInBounds_toArray, List.set_cons_zero, List.set_cons_succ]
                refine wpOrd_nil ?_
                simp only [List.drop_succ_cons, List.drop_zero]
                have hown3 : w5.ownsRow (G + 1) 3 1 v2 (L.take k0 ++ L.drop (k0 + 1)).length ((L.take k0 ++ L.drop (k0 + 1)).flatMap encI) := by
                  rw [List.flatMap_append, show (L.take k0 ++ L.drop (k0 + 1)).length = 0 + k0 + (L.length - (k0 + 1)) by simp; omega]
                  exact own_mono (base' := W1.heap.size) (by simpa using hown2) (by omega)
                have hI5 : OI w G t D (L.take k0 ++ L.drop (k0 + 1)) v2 w5 := ⟨hz, hown3, g0.below hC5 hgG, hB1.trans (hC5.mono hB1.size), p0.below hC5 p0.lt⟩
                clear hown hown2 hgrow hgrow2 hC4 hC5 hB1 g0 p0 had had2 hw1 hS1 hown3
                go_wp2_with fail
                have hlen : (L.take k0 ++ L.drop (k0 + 1)).length = L.length - 1 := by simp; omega
                go_roundg (L.length - 1 + (m.length - (k + 1)))
                case measure => exact HMS.out.1
                case rel => exact ⟨L.take k0 ++ L.drop (k0 + 1), q', k + 1, by first | rfl | go_num, by rw [hlen], HMS.out.2, right_sub hokL k0, by rw [HD.out]; exact hI5⟩
          · go_wp2_with fail
            go_roundg (L.length + (m.length - (k + 1)))
            case measure => omega
            case rel => exact ⟨L, q', k + 1, by first | rfl | go_num, rfl, by omega, hokL, hI'⟩
      · rw [decide_eq_false hend]
        obtain rfl : L = [] := List.eq_nil_of_length_eq_zero (by omega)
        have rr := fun w => ls_read HW.out q w
        have cc := fun w => ls_check HW.out q w
        obtain ⟨S, hS⟩ : ∃ S, LS [] t q = S := ⟨_, rfl⟩
        rw [hS] at rr cc hI
        have bq := fun w => runT t t w
        simp only [eqTr_self] at bq
        unfold Se.val at rr cc
        unfold Tr.val at rr bq
        have RR := Lib.hid rr
        have CC := Lib.hid cc
        clear rr cc hS hIH
        obtain ⟨c0, c1, c2, c3, c4, c5⟩ := st6 hI.row
        go_wp2_with (first
          | (go_at_call 24; (with_reducible refine (RR.out _).mono ?_); rintro e wr1 ⟨rfl, hb⟩; replace hI := hI.below hb; clear c0 c1 c2 c3 c4 c5; obtain ⟨c0, c1, c2, c3, c4, c5⟩ := st6 hI.row; obtain ⟨d0, d1, d2⟩ := st3 hI.p; have hGr := hI.row.lt; have hpr := hI.p.lt)
          | (go_at_call 25; (with_reducible refine (CC.out _).mono ?_); rintro e wr2 ⟨rfl, hb2⟩))
        go_ret
        exact ⟨rfl, (hI.b.alloc hI.b.size _).trans (hb2.mono (by have := hI.b.size; simp; omega))⟩

end Go.Proofs.Ytlbnbginippjfaa

