import Derived.Test.YthckledagggoiaaGreatDoorAr5
set_option linter.unusedSimpArgs false
set_option linter.unusedVariables false
namespace Go.Proofs.YthckledagggoiaaGreatDoor
open Go.RowKit Fk
/-! The reference's homes: Has, find, Asked. -/
set_option maxRecDepth 100000 in
set_option maxHeartbeats 2000000 in
theorem r25has_any (l : List Int) (v : Value) (n : Int) (w : World) (h : SlI w w.heap.size v l) (hl : l.length ≤ 100000) :
    Calls Tryz.prog 138 #[v, .int .i64 n] w fun e w' => e = .returned (.bool (decide (n ∈ l))) ∧ Below w.heap.size w w' := by
  have HS := Lib.hid h
  obtain ⟨_, A, c, rfl, _⟩ := h
  obtain ⟨R, hR⟩ : ∃ R, decide (n ∈ l) = R := ⟨_, rfl⟩
  rw [hR]
  have HR := Lib.hid hR
  clear hR
  go_enter Tryz.func138, Tryz.ntmps138
  go_wp2
  go_loopg [5] l.length (fun g iv wr => Below w.heap.size w wr ∧ ∃ k : Nat, iv = .int .i64 k ∧ k + g = l.length ∧ ∀ i, i < k → l.getD i default ≠ n)
  case atStart => exact ⟨Below.refl _ _, 0, rfl, by omega, fun i hi => by omega⟩
  case round =>
    obtain ⟨hBr, k, rfl, hk, hall⟩ := hrel
    have HA := Lib.hid hall
    clear hall
    by_cases hlt : k < l.length
    · obtain ⟨_, A', c', hv, hE⟩ := HS.out.below hBr
      obtain ⟨b, off, rfl, hb, hE⟩ := hE (by omega)
      cases hv
      have d1 := hE.int hlt
      have hmem : l.getD k default ∈ l := by rw [List.getD_eq_getElem?_getD, List.getElem?_eq_getElem hlt]; exact List.getElem_mem hlt
      obtain ⟨m, hm⟩ : ∃ m, l.getD k default = m := ⟨_, rfl⟩
      rw [hm] at d1 hmem
      have HM := Lib.hid hm
      have s1 : (0 : Int) ≤ k := by omega
      have s2 : (k : Int) < l.length := by omega
      by_cases hmn : m = n
      · have z : (m == n) = true := by rw [hmn]; exact beq_self_eq_true n
        have hr : R = true := by rw [← HR.out, decide_eq_true_eq, ← hmn]; exact hmem
        have HRR := Lib.hid hr
        clear hE hm hmn hmem hr
        go_wp2
        rw [HRR.out]
        go_ret
        exact ⟨rfl, hBr⟩
      · have z : (m == n) = false := beq_eq_false_iff_ne.2 hmn
        have HMN := Lib.hid hmn
        clear hE hm hmn hmem
        go_wp2
        go_roundg (gk - 1)
        case measure => omega
        case rel => exact ⟨hBr, k + 1, by first | rfl | go_num, by omega, fun i hi => by
          by_cases hik : i = k
          · subst hik; rw [HM.out]; exact HMN.out
          · exact HA.out i (by omega)⟩
    · obtain rfl : k = l.length := by omega
      have hr : R = false := by
        rw [← HR.out, decide_eq_false_iff_not]
        intro hn
        obtain ⟨i, hi, rfl⟩ := List.getElem_of_mem hn
        exact HA.out i hi (by rw [List.getD_eq_getElem?_getD, List.getElem?_eq_getElem hi]; rfl)
      have HRR := Lib.hid hr
      clear hr
      go_wp2
      rw [HRR.out]
      go_ret
      exact ⟨rfl, hBr⟩
set_option maxRecDepth 100000 in
set_option maxHeartbeats 4000000 in
theorem r34find_any (X : List En) (v : Value) (k a : Int) (w : World) (h : SlE w w.heap.size v X) (hl : X.length ≤ 100000) :
    Calls Tryz.prog 102 #[v, .int .i64 k, .int .i64 a] w fun e w' => e = .returned (.int .i64 (optZ (findN X k a))) ∧ Below w.heap.size w w' := by
  have HS := Lib.hid h
  obtain ⟨_, A, c, rfl, _⟩ := h
  obtain ⟨R, hR⟩ : ∃ R, optZ (findN X k a) = R := ⟨_, rfl⟩
  rw [hR]
  have HR := Lib.hid hR
  clear hR
  go_enter Tryz.func102, Tryz.ntmps102
  go_wp2
  go_loopg [7] X.length (fun g iv wr => Below w.heap.size w wr ∧ ∃ i : Nat, iv = .int .i64 i ∧ i + g = X.length ∧ ∀ q, q < i → findP X k a q = false)
  case atStart => exact ⟨Below.refl _ _, 0, rfl, by omega, fun i hi => by omega⟩
  case round =>
    obtain ⟨hBr, i, rfl, hk, hall⟩ := hrel
    have HA := Lib.hid hall
    clear hall
    by_cases hlt : i < X.length
    · obtain ⟨b, off, c', hv, hb, hE⟩ := ent_at (HS.out.below hBr) hlt
      cases hv
      obtain ⟨d0, d1, d2, d3, d4, d5, d6, d7⟩ := hE i hlt
      have hfp : findP X k a i = decide ((X.getD i default).kind = k ∧ (X.getD i default).a = a) := rfl
      obtain ⟨x, hx⟩ : ∃ x, X.getD i default = x := ⟨_, rfl⟩
      rw [hx] at d0 d1 d2 d3 d4 d5 d6 d7 hfp
      have HFP := Lib.hid hfp
      have s1 : (0 : Int) ≤ i := by omega
      have s2 : (i : Int) < X.length := by omega
      have nxt : findP X k a i = false → ∀ q, q < i + 1 → findP X k a q = false := fun h q hq => by
        by_cases hqi : q = i
        · rw [hqi]; exact h
        · exact HA.out q (by omega)
      have NX := Lib.hid nxt
      clear hE hx hfp nxt d0 d3 d4 d5 d6 d7
      by_cases h1 : x.kind = k
      · have z1 : (x.kind == k) = true := by rw [h1]; exact beq_self_eq_true k
        by_cases h2 : x.a = a
        · have z2 : (x.a == a) = true := by rw [h2]; exact beq_self_eq_true a
          have hf : findN X k a = some i := findN_some hlt (by rw [HFP.out]; exact decide_eq_true ⟨h1, h2⟩) HA.out
          have hr : R = (i : Int) := by rw [← HR.out, hf]; rfl
          have HRR := Lib.hid hr
          clear h1 h2 hf hr
          go_wp2
          rw [HRR.out]
          go_ret
          exact ⟨rfl, hBr⟩
        · have z2 : (x.a == a) = false := beq_eq_false_iff_ne.2 h2
          have hn := NX.out (by rw [HFP.out]; exact decide_eq_false (fun h => h2 h.2))
          have HN := Lib.hid hn
          clear h1 h2 hn
          go_wp2
          go_roundg (gk - 1)
          case measure => omega
          case rel => exact ⟨hBr, i + 1, by first | rfl | go_num, by omega, HN.out⟩
      · have z1 : (x.kind == k) = false := beq_eq_false_iff_ne.2 h1
        have hn := NX.out (by rw [HFP.out]; exact decide_eq_false (fun h => h1 h.1))
        have HN := Lib.hid hn
        clear h1 hn
        go_wp2
        go_roundg (gk - 1)
        case measure => omega
        case rel => exact ⟨hBr, i + 1, by first | rfl | go_num, by omega, HN.out⟩
    · obtain rfl : i = X.length := by omega
      have hr : R = -1 := by rw [← HR.out, findN_none HA.out]; rfl
      have HRR := Lib.hid hr
      clear hr
      go_wp2
      rw [HRR.out]
      go_ret
      exact ⟨rfl, hBr⟩
theorem infoIn : (Tryz.prog.info? 3).map (fun i => (i.zero, i.size, i.bytes)) = some (some (.int .i64 0), 1, 8) := by kernel_rfl
theorem chain_len {D : Int → Option En} {L : List Int} (hL : ∀ p x, D p = some x → p ∈ L) {p : Int} {met : List Int} {r : List (Int × Bool)} (h : Chain D p met r) : r.length ≤ left L met + 2 := by
  induction h with
  | stop _ => simp
  | circle _ _ => simp
  | step h1 h2 h3 ih =>
    rename_i p met x r
    by_cases hx : x.b ∈ L
    · have := left_lt hx h2
      simp only [List.length_cons]; omega
    · have hd : D x.b = none := by
        cases hd : D x.b with
        | none => rfl
        | some y => exact absurd (hL _ _ hd) hx
      cases h3 with
      | stop _ => simp
      | circle h4 _ => rw [hd] at h4; cases h4
      | step h4 _ _ => rw [hd] at h4; cases h4
theorem optZ_neg {o : Option Nat} (h : o = none) : optZ o = -1 := by rw [h]; rfl
set_option maxRecDepth 100000 in
set_option maxHeartbeats 8000000 in
theorem r34asked_any (X : List En) (v : Value) (p0 : Int) (w : World) (h : SlE w w.heap.size v X) (hl : X.length ≤ 1024) (hu : ∀ q i, findN X 2 q = some i → deskL X 2 q = some (X.getD i default)) :
    Calls Tryz.prog 101 #[v, .int .i64 p0] w fun e w' => ∃ x P, e = .returned (.tuple #[x, .bool (endL X p0).2]) ∧ SlI w' w'.heap.size x P ∧ P.getLast? = some (endL X p0).1 ∧ P.length ≤ 2000 ∧ Below w.heap.size w w' := by
  obtain ⟨i0, hi, hz0, hz1, hz2⟩ := info_parts infoIn
  obtain ⟨r0, hch, hlast⟩ := chain_desk X p0
  have hlen := chain_len (fun p x h => deskL_mem X 2 p x h) hch
  have hl2 : left (X.map (·.a)) [p0] ≤ X.length := by have := left_len (X.map (·.a)) [p0]; rwa [List.length_map] at this
  have hn0 : r0.length ≤ 1026 := by omega
  obtain ⟨Q, hQ⟩ : ∃ Q, endL X p0 = Q := ⟨_, rfl⟩
  rw [hQ] at hlast ⊢
  have HS := Lib.hid h
  have HU := Lib.hid hu
  have hfi := fun (a : Int) (W : World) (hb : Below w.heap.size w W) => r34find_any X v 2 a W ((h.below hb).mono hb.size) (by omega)
  have HF := Lib.hid hfi
  obtain ⟨_, A, c, rfl, _⟩ := h
  have hB0 := (Below.refl w.heap.size w).alloc (Nat.le_refl _) (.cells #[.int .i64 p0] 3)
  have hO0 : (w.alloc (.cells #[.int .i64 p0] 3)).ownsRow w.heap.size 3 1 (.slice (some ⟨w.heap.size, 0, none⟩) 1 1) 1 [.int .i64 p0] :=
    ⟨rfl, .inr ⟨w.heap.size, 1, #[.int .i64 p0], rfl, Nat.le_refl _, Row.new w 3 [.int .i64 p0], Nat.le_refl _, by unfold maxLen; omega, rfl, rfl⟩⟩
  have HC := Lib.hid hch
  have HLA := Lib.hid hlast
  clear hfi hu hch hlast hlen hl2 hQ
  go_enter Tryz.func101, Tryz.ntmps101
  go_wp2_with (go_at_call 102; (with_reducible refine (HF.out _ _ hB0).mono ?_); rintro e w1 ⟨rfl, hb1⟩)
  have hB1 := hB0.trans (hb1.mono hB0.size)
  have hO1 := hO0.kept (grown_below' hb1 none) (.inr (by simp [Value.ownBlock]))
  clear hB0 hO0 hb1
  go_loopg [6, 7] r0.length (fun g xv iv wr => ∃ (p : Int) (met P : List Int) (r : List (Int × Bool)), iv = .int .i64 (optZ (findN X 2 p)) ∧ r.length = g ∧ Chain (deskL X 2) p met r ∧ (∀ z, z ∈ met ↔ z ∈ P) ∧ P.getLast? = some p ∧ r.getLast? = some Q ∧ P.length + r.length = r0.length + 1 ∧ Below w.heap.size w wr ∧ wr.ownsRow w.heap.size 3 1 xv P.length (P.flatMap Fk.encI))
  case atStart => exact ⟨p0, [p0], [p0], r0, rfl, rfl, HC.out, fun z => Iff.rfl, rfl, HLA.out, by simp; omega, hB1, hO1⟩
  case round =>
    clear hB1 hO1
    obtain ⟨p, met, P, r, rfl, hg, hc, hmp, hPl, hrl, hn, hBr, hown⟩ := hrel
    obtain ⟨xo, rfl⟩ : ∃ xo : Value, xo = u6 := ⟨_, rfl⟩
    have hPn : P.length ≤ 1027 := by omega
    have hsl : SlI wr wr.heap.size xo P := own_slG hown (fun _ => rfl) rfl (by omega)
    have HSL := Lib.hid hsl
    have HO := Lib.hid hown
    have HPL := Lib.hid hPl
    cases hf : findN X 2 p with
    | none =>
      have hd : deskL X 2 p = none := by
        have := desk_isSome X 2 p
        rw [hf] at this
        cases hd : deskL X 2 p with
        | none => rfl
        | some m => rw [hd] at this; cases this
      have hq : Q = (p, false) := by
        cases hc with
        | stop _ => cases hrl; rfl
        | circle h4 _ => rw [hd] at h4; cases h4
        | step h4 _ _ => rw [hd] at h4; cases h4
      have e0 : optZ (none : Option Nat) = -1 := rfl
      rw [e0]
      have HQ := Lib.hid hq
      clear hf hd hq hc hmp hPl hrl hown hsl
      go_wp2
      rw [HQ.out]
      go_ret2
      exact ⟨_, P, rfl, HSL.out, HPL.out, by omega, hBr⟩
    | some i =>
      have hd := HU.out p i hf
      obtain ⟨hix, _, _⟩ := findN_is hf
      have e0 : optZ (some i) = (i : Int) := rfl
      rw [e0]
      obtain ⟨b, off, c', hv, hb, hE⟩ := ent_at (HS.out.below hBr) hix
      cases hv
      have ex := hE i hix
      obtain ⟨x, hx⟩ : ∃ x, X.getD i default = x := ⟨_, rfl⟩
      rw [hx] at ex hd
      have EX := Lib.hid ex
      obtain ⟨d0, d1, d2, d3, d4, d5, d6, d7⟩ := ex
      have hbr : b < wr.heap.size := by have := hBr.size; omega
      have s1 : (0 : Int) ≤ i := by omega
      have s2 : (i : Int) < X.length := by omega
      have hhas := r25has_any P xo x.b wr hsl (by omega)
      by_cases hm : x.b ∈ P
      · rw [decide_eq_true hm] at hhas
        have hq : Q = (p, true) := by
          cases hc with
          | stop h4 => rw [hd] at h4; cases h4
          | circle _ _ => cases hrl; rfl
          | step h4 h5 _ => rw [hd] at h4; cases h4; exact absurd ((hmp _).2 hm) h5
        have HQ := Lib.hid hq
        have HH := Lib.hid hhas
        clear hf hd hq hc hmp hPl hrl hown hsl hm hhas hx hE d0 d1 d2 d4 d5 d6 d7
        go_wp2_with (go_at_call 138; (with_reducible refine HH.out.mono ?_); rintro e w2 ⟨rfl, hb2⟩)
        rw [HQ.out]
        go_ret2
        exact ⟨_, P, rfl, (HSL.out.below hb2).mono hb2.size, HPL.out, by omega, hBr.trans (hb2.mono hBr.size)⟩
      · rw [decide_eq_false hm] at hhas
        obtain ⟨r', hr', hc'⟩ : ∃ r', r = (p, false) :: r' ∧ Chain (deskL X 2) x.b (x.b :: met) r' := by
          cases hc with
          | stop h4 => rw [hd] at h4; cases h4
          | circle h4 h5 => rw [hd] at h4; cases h4; exact absurd ((hmp _).1 h5) hm
          | step h4 h5 h6 => rw [hd] at h4; cases h4; exact ⟨_, rfl, h6⟩
        have hrl' : r'.getLast? = some Q := by
          rw [hr', List.getLast?_cons] at hrl
          cases hq : r'.getLast? with
          | none =>
            have : r' = [] := List.getLast?_eq_none_iff.1 hq
            rw [this] at hc'; cases hc'
          | some q => rw [hq] at hrl; exact hrl
        have HH := Lib.hid hhas
        have HCC := Lib.hid hc'
        have HRL := Lib.hid hrl'
        have HMP := Lib.hid hmp
        have hrn : r'.length + 1 = gk := by rw [← hg, hr']; rfl
        have hrn2 : P.length + (r'.length + 1) = r0.length + 1 := by rw [← hn, hr']; rfl
        have hszr := hBr.size
        have hE3 : ∀ W, Below w.heap.size w W → EntAt W b (off + i * 8) x := fun W hW => by
          obtain ⟨b2, off2, c2, hv2, hb2, hE2⟩ := ent_at (HS.out.below hW) hix
          cases hv2
          rw [← hx]; exact hE2 i hix
        clear hf hd hc hmp hPl hrl hrl' hc' hr' hown hsl hm hhas hx hE d0 d1 d2 d4 d5 d6 d7 hg hn
        go_wp2_with (first
          | (go_at_call 138; (with_reducible refine HH.out.mono ?_); rintro e w2 ⟨rfl, hb2⟩; have hB2 := hBr.trans (hb2.mono hBr.size); have hsz2 := hb2.size; obtain ⟨d0, d1, d2, d3, d4, d5, d6, d7⟩ := EX.out.below hb2 hbr; have hO2 := HO.out.kept (grown_below' hb2 (some wr.heap.size)) (.inr (fun e => by have := (HO.out.lt _ e).2; omega)))
          | (at_builtin; go_loud (refine wpList_append_own _ rfl _ _ 25 rfl w.heap.size 3 i0 (.int .i64 0) 1 8 Tryz.underlying25 hi hz0 hz1 hz2 rfl (by decide) _ _ _ rfl (hO2.alloc _) ⟨w2.heap.size, 0, none⟩ 1 1 [.int .i64 x.b] rfl rfl (cells_new w2 3 [.int .i64 x.b]) (by simp [Value.oneCell']) (by unfold maxLen; omega) (by omega) (by simp; omega) ?_; intro v' w3 hown' hgrow _; have hB3 := (hB2.alloc hB2.size (.cells #[.int .i64 x.b] 3)).grown hgrow (by simp; omega) (fun r e => (hO2.lt r e).1); obtain ⟨d0, d1, d2, d3, d4, d5, d6, d7⟩ := (show EntAt w3 b (off + i * 8) x from (hE3 w3 hB3))))
          | (go_at_call 102; (with_reducible refine (HF.out _ _ hB3).mono ?_); rintro e w4 ⟨rfl, hb4⟩))
        go_roundg (gk - 1)
        case measure => omega
        case rel =>
          refine ⟨x.b, x.b :: met, P ++ [x.b], r', rfl, by omega, HCC.out, fun z => ?_, by simp, HRL.out, by simp; omega, hB3.trans (hb4.mono hB3.size), ?_⟩
          · rw [List.mem_cons, List.mem_append, List.mem_singleton, HMP.out z]; exact Or.comm
          · rw [List.length_append, List.flatMap_append]
            exact hown'.kept (grown_below' hb4 (some w3.heap.size)) (.inr (fun e => by have := (hown'.lt _ e).2; omega))
end Go.Proofs.YthckledagggoiaaGreatDoor
