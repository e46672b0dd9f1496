import Derived.Test.YthckledagggoiaaGreatDoorAr7
import Derived.Test.YthckledagggoiaaGreatDoorAr2
import Derived.Laws.AppendOwnNone
set_option linter.unusedSimpArgs false
set_option linter.unusedVariables false
namespace Go.Proofs.YthckledagggoiaaGreatDoor
open Go.RowKit Fk
/-! The reference's Put, Book. -/
theorem own_rowI {W : World} {base n m : Nat} {e : TypeId} {v : Value} {xs : List Value} (h : W.ownsRow base e m v n xs) (hn : 0 < n) : ∃ g cap ex, v = .slice (some ⟨g, 0, none⟩) n cap ∧ base ≤ g ∧ Row W g e (xs ++ ex) := by
  rcases h.2 with ⟨_, h0⟩ | ⟨g, cap, cur, rfl, hb, hg, hnc, hc, hcs, ht⟩
  · omega
  · refine ⟨g, cap, cur.toList.drop (n * m), rfl, hb, ?_⟩
    rw [← ht, List.take_append_drop]
    show W.heap[g]? = _
    rw [hg]
theorem own_cellsI {W : World} {base n : Nat} {e : TypeId} {v : Value} {xs : List Value} (h : W.ownsRow base e 1 v n xs) (hn : 0 < n) : ∃ g cap, v = .slice (some ⟨g, 0, none⟩) n cap ∧ ∀ j u, xs[j]? = some u → W.cell? ((⟨g, 0, none⟩ : Addr).add j) = some u := by
  obtain ⟨g, cap, ex, hv, _, hr⟩ := own_rowI h hn
  refine ⟨g, cap, hv, fun j u hu => ?_⟩
  have := hr.cell j
  rw [List.getElem?_append_left (List.getElem?_eq_some_iff.1 hu).1, hu] at this
  rw [show (⟨g, 0, none⟩ : Addr).add j = ⟨g, j, none⟩ by simp [Addr.add]; omega]
  exact this
/-- two lists that own one block begin alike -/
theorem own_apart {W : World} {base nx ny : Nat} {e : TypeId} {xv yv : Value} {xs ys : List Value} (hx : W.ownsRow base e 1 xv nx xs) (hy : W.ownsRow base e 1 yv ny ys) (h0x : nx = 0 → xv = .slice none 0 0) (h0y : ny = 0 → yv = .slice none 0 0)
    (hne : ∀ a b, xs[0]? = some a → ys[0]? = some b → a ≠ b) : yv.ownBlock = none ∨ yv.ownBlock ≠ xv.ownBlock := by
  by_cases h1 : ny = 0
  · rw [h0y h1]; exact .inl rfl
  · by_cases h2 : nx = 0
    · rw [h0x h2]
      by_cases h3 : yv.ownBlock = none
      · exact .inl h3
      · exact .inr h3
    · refine .inr fun he => ?_
      obtain ⟨g, cap, ex, rfl, _, hr⟩ := own_rowI hx (by omega)
      obtain ⟨g2, cap2, ex2, rfl, _, hr2⟩ := own_rowI hy (by omega)
      simp only [Value.ownBlock, Option.some.injEq] at he
      subst he
      have hlx : xs.length = nx := by have := hx.1; omega
      have hly : ys.length = ny := by have := hy.1; omega
      have c1 := hr.cell 0
      have c2 := hr2.cell 0
      rw [List.getElem?_append_left (by omega)] at c1 c2
      have e1 := List.getElem?_eq_getElem (l := xs) (i := 0) (by omega)
      have e2 := List.getElem?_eq_getElem (l := ys) (i := 0) (by omega)
      have : some xs[0] = some ys[0] := by rw [← e1, ← e2, ← c1, c2]
      exact hne _ _ e1 e2 (Option.some.inj this)
theorem grown_alloc {W W' : World} {o : Obj} {row : Option Nat} (h : (W.alloc o).grownBy W' row) : W.grownBy W' row :=
  ⟨h.os, h.tape, h.output, by have := h.size; simp at this; omega, fun k hk hne => (h.block k (by simp; omega) hne).trans (Below.heap_alloc W o k hk)⟩
theorem takeI {l : List Int} {k : Nat} (h : k < l.length) : l.take (k + 1) = l.take k ++ [l.getD k default] := by
  rw [List.take_add_one, List.getD_eq_getElem?_getD, List.getElem?_eq_getElem h]; rfl
theorem flatI (l : List Int) : l.flatMap Fk.encI = l.map (Value.int .i64) := by
  induction l with
  | nil => rfl
  | cons a r ih => rw [List.flatMap_cons, ih]; rfl
theorem low_high_ne (l m : List Int) (n : Int) (a b : Value) (h1 : ((lowL l n).map (Value.int .i64))[0]? = some a) (h2 : ((highL m n).map (Value.int .i64))[0]? = some b) : a ≠ b := by
  rw [List.getElem?_map] at h1 h2
  obtain ⟨x, hx, rfl⟩ := Option.map_eq_some_iff.1 h1
  obtain ⟨y, hy, rfl⟩ := Option.map_eq_some_iff.1 h2
  have k1 := (List.mem_filter.1 (List.mem_of_getElem? hx)).2
  have k2 := (List.mem_filter.1 (List.mem_of_getElem? hy)).2
  rw [decide_eq_true_eq] at k1
  simp only [Bool.not_eq_true', decide_eq_false_iff_not] at k2
  intro e
  injection e with e1 e2
  omega
set_option maxRecDepth 100000 in
set_option maxHeartbeats 8000000 in
theorem r35put_any (l : List Int) (v : Value) (n : Int) (w : World) (h : SlI w w.heap.size v l) (hl : l.length ≤ 100000) :
    Calls Tryz.prog 81 #[v, .int .i64 n] w fun e w' => ∃ x, e = .returned x ∧ SlI w' w'.heap.size x (putL l n) ∧ Below w.heap.size w w' := by
  obtain ⟨i0, hi, hz0, hz1, hz2⟩ := info_parts infoIn
  have HS := Lib.hid h
  obtain ⟨_, A, c, rfl, _⟩ := h
  obtain ⟨RL, hRL⟩ : ∃ RL, putL l n = RL := ⟨_, rfl⟩
  rw [hRL]
  have HRL := Lib.hid hRL
  clear hRL
  go_enter Tryz.func81, Tryz.ntmps81
  go_wp2
  go_loopg [5, 6, 7] l.length (fun g xv yv iv wr => ∃ k : Nat, iv = .int .i64 k ∧ k + g = l.length ∧ Below w.heap.size w wr ∧ wr.ownsRow w.heap.size 3 1 xv (lowL (l.take k) n).length ((lowL (l.take k) n).map (Value.int .i64)) ∧ wr.ownsRow w.heap.size 3 1 yv (highL (l.take k) n).length ((highL (l.take k) n).map (Value.int .i64)) ∧
    ((lowL (l.take k) n).length = 0 → xv = .slice none 0 0) ∧ ((highL (l.take k) n).length = 0 → yv = .slice none 0 0) ∧ ∀ i, i < k → l.getD i default ≠ n)
  case atStart => exact ⟨0, rfl, by omega, Below.refl _ _, World.ownsRow_nil _ _ _ _, World.ownsRow_nil _ _ _ _, fun _ => rfl, fun _ => rfl, fun i hi => by omega⟩
  case round =>
    obtain ⟨k, rfl, hkg, hBr, hx, hy, hx0, hy0, hall⟩ := hrel
    obtain ⟨xo, rfl⟩ : ∃ xo : Value, xo = u5 := ⟨_, rfl⟩
    obtain ⟨yo, rfl⟩ : ∃ yo : Value, yo = u6 := ⟨_, rfl⟩
    have hap := own_apart hx hy hx0 hy0 (low_high_ne _ _ n)
    have hap2 := own_apart hy hx hy0 hx0 (fun a b h1 h2 e => low_high_ne _ _ n b a h2 h1 e.symm)
    have hlx : (lowL (l.take k) n).length ≤ l.length := Nat.le_trans (List.length_filter_le _ _) (by rw [List.length_take]; omega)
    have hly : (highL (l.take k) n).length ≤ l.length := Nat.le_trans (List.length_filter_le _ _) (by rw [List.length_take]; omega)
    have hszr := hBr.size
    by_cases hlt : k < l.length
    · obtain ⟨_, A', c', hv, hE⟩ := HS.out.below hBr
      obtain ⟨b, off, rfl, hb, hE⟩ := hE (by omega)
      cases hv
      have d1 := hE.int hlt
      have htk := takeI hlt
      have hmem : l.getD k default ∈ l := by rw [List.getD_eq_getElem?_getD, List.getElem?_eq_getElem hlt]; exact List.getElem_mem hlt
      obtain ⟨m, hm⟩ : ∃ m, l.getD k default = m := ⟨_, rfl⟩
      rw [hm] at d1 htk hmem
      have HM := Lib.hid hm
      have s1 : (0 : Int) ≤ k := by omega
      have s2 : (k : Int) < l.length := by omega
      have HALL := Lib.hid hall
      have hbr : b < wr.heap.size := by omega
      have nx : m ≠ n → ∀ i, i < k + 1 → l.getD i default ≠ n := fun h i hi => by
        by_cases hik : i = k
        · rw [hik, HM.out]; exact h
        · exact HALL.out i (by omega)
      have NX := Lib.hid nx
      clear hE hm nx hall
      by_cases hmn : m = n
      · have z : (m == n) = true := by rw [hmn]; exact beq_self_eq_true n
        have hp : RL = l := by rw [← HRL.out]; unfold putL; rw [if_pos (hmn ▸ hmem)]
        have HP := Lib.hid hp
        have hsl := (HS.out.below hBr).mono hszr
        have HSL := Lib.hid hsl
        clear hmn hp hx hy hx0 hy0 hap hap2 htk hmem hsl
        go_wp2
        go_ret
        exact ⟨_, rfl, by rw [HP.out]; exact HSL.out, hBr⟩
      · have z : (m == n) = false := beq_eq_false_iff_ne.2 hmn
        have hnx := NX.out hmn
        have HNX := Lib.hid hnx
        have cells : ∀ W, Below w.heap.size w W → W.cell? ⟨b, off + k, none⟩ = some (.int .i64 m) := fun W hW => by
          obtain ⟨_, A3, c3, hv3, hE3⟩ := HS.out.below hW
          obtain ⟨b3, off3, hA3, hb3, hE3⟩ := hE3 (by omega)
          cases hv3
          cases hA3
          have := hE3.int hlt
          rw [HM.out] at this; exact this
        by_cases hlo : m < n
        · have z2 : decide (m < n) = true := decide_eq_true hlo
          have e1 : lowL (l.take (k + 1)) n = lowL (l.take k) n ++ [m] := by rw [htk]; unfold lowL; rw [List.filter_append, List.filter_cons, if_pos (by simpa using hlo)]; rfl
          have e2 : highL (l.take (k + 1)) n = highL (l.take k) n := by rw [htk]; unfold highL; rw [List.filter_append, List.filter_cons, if_neg (by simpa using hlo)]; simp
          have E1 := Lib.hid e1
          have E2 := Lib.hid e2
          have HX := Lib.hid hx
          have HY := Lib.hid hy
          have HY0 := Lib.hid hy0
          have HAP := Lib.hid hap
          clear hmn hlo e1 e2 hx hy hx0 hy0 hap hap2 htk hmem hnx
          go_wp2_with (at_builtin; (refine wpList_append_own _ rfl _ _ 25 rfl w.heap.size 3 i0 (.int .i64 0) 1 8 Tryz.underlying25 hi hz0 hz1 hz2 rfl (by decide) _ _ _ rfl (HX.out.alloc _) ⟨wr.heap.size, 0, none⟩ 1 1 [.int .i64 m] rfl rfl (cells_new wr 3 [.int .i64 m]) (by simp [Value.oneCell']) (by unfold maxLen; omega) (by omega) (by simp; omega) ?_; intro v' w2 hown' hgrow _))
          go_roundg (gk - 1)
          case measure => omega
          case rel =>
            refine ⟨k + 1, by first | rfl | go_num, by omega, (hBr.alloc hszr (.cells #[.int .i64 m] 3)).grown hgrow (by simp; omega) (fun r e => (HX.out.lt r e).1), ?_, ?_, ?_, ?_, HNX.out⟩
            · rw [E1.out, List.length_append, List.map_append]; exact hown'
            · rw [E2.out]; exact (HY.out.alloc _).kept hgrow HAP.out
            · rw [E1.out]; intro h; simp at h
            · rw [E2.out]; exact HY0.out
        · have z2 : decide (m < n) = false := decide_eq_false hlo
          have e1 : lowL (l.take (k + 1)) n = lowL (l.take k) n := by rw [htk]; unfold lowL; rw [List.filter_append, List.filter_cons, if_neg (by simpa using hlo)]; simp
          have e2 : highL (l.take (k + 1)) n = highL (l.take k) n ++ [m] := by rw [htk]; unfold highL; rw [List.filter_append, List.filter_cons, if_pos (by simpa using hlo)]; rfl
          have E1 := Lib.hid e1
          have E2 := Lib.hid e2
          have HX := Lib.hid hx
          have HY := Lib.hid hy
          have HX0 := Lib.hid hx0
          have HAP := Lib.hid hap2
          clear hmn hlo e1 e2 hx hy hx0 hy0 hap hap2 htk hmem hnx
          go_wp2_with (at_builtin; (refine wpList_append_own _ rfl _ _ 25 rfl w.heap.size 3 i0 (.int .i64 0) 1 8 Tryz.underlying25 hi hz0 hz1 hz2 rfl (by decide) _ _ _ rfl (HY.out.alloc _) ⟨wr.heap.size, 0, none⟩ 1 1 [.int .i64 m] rfl rfl (cells_new wr 3 [.int .i64 m]) (by simp [Value.oneCell']) (by unfold maxLen; omega) (by omega) (by simp; omega) ?_; intro v' w2 hown' hgrow _))
          go_roundg (gk - 1)
          case measure => omega
          case rel =>
            refine ⟨k + 1, by first | rfl | go_num, by omega, (hBr.alloc hszr (.cells #[.int .i64 m] 3)).grown hgrow (by simp; omega) (fun r e => (HY.out.lt r e).1), ?_, ?_, ?_, ?_, HNX.out⟩
            · rw [E1.out]; exact (HX.out.alloc _).kept hgrow HAP.out
            · rw [E2.out, List.length_append, List.map_append]; exact hown'
            · rw [E1.out]; exact HX0.out
            · rw [E2.out]; intro h; simp at h
    · obtain rfl : k = l.length := by omega
      rw [List.take_length] at hx hy hx0 hy0 hlx hly
      have hnot : n ∉ l := fun hn => by
        obtain ⟨i, hi, hi2⟩ := List.getElem_of_mem hn
        exact hall i hi (by rw [List.getD_eq_getElem?_getD, List.getElem?_eq_getElem hi]; exact hi2)
      have hp : RL = lowL l n ++ [n] ++ highL l n := by rw [← HRL.out]; unfold putL; rw [if_neg hnot]
      have HX := Lib.hid hx
      have HY := Lib.hid hy
      have HAP := Lib.hid hap
      have hlen : (lowL l n).length + 1 + (highL l n).length ≤ 300000 := by omega
      have endp : ∀ (W : World) (v : Value), W.ownsRow w.heap.size 3 1 v ((lowL l n).length + 1 + (highL l n).length) ((lowL l n).map (Value.int .i64) ++ [.int .i64 n] ++ (highL l n).map (Value.int .i64)) → SlI W W.heap.size v RL := fun W v h => by
        rw [hp]
        have e : (lowL l n ++ [n] ++ highL l n).flatMap Fk.encI = (lowL l n).map (Value.int .i64) ++ [.int .i64 n] ++ (highL l n).map (Value.int .i64) := by rw [flatI, List.map_append, List.map_append]; rfl
        rw [← e] at h
        exact own_slG h (fun _ => rfl) (by simp only [List.length_append, List.length_cons, List.length_nil]) (by simp only [List.length_append, List.length_cons, List.length_nil]; omega)
      have HEND := Lib.hid endp
      rcases Nat.eq_zero_or_pos (highL l n).length with h0 | h0
      · have hyv := hy0 h0
        subst hyv
        have hh : highL l n = [] := List.eq_nil_of_length_eq_zero h0
        have HH := Lib.hid hh
        clear hx hy hx0 hy0 hap hap2 hnot hp hall endp hh h0
        go_wp2_with (first
          | (at_builtin; (refine wpList_append_own _ rfl _ _ 25 rfl w.heap.size 3 i0 (.int .i64 0) 1 8 Tryz.underlying25 hi hz0 hz1 hz2 rfl (by decide) _ _ _ rfl (HX.out.alloc _) ⟨wr.heap.size, 0, none⟩ 1 1 [.int .i64 n] rfl rfl (cells_new wr 3 [.int .i64 n]) (by simp [Value.oneCell']) (by unfold maxLen; omega) (by omega) (by simp; omega) ?_; intro v' w2 hown' hgrow _))
          | (at_builtin; (refine wpList_append_own_none rfl _ _ 25 rfl w.heap.size 3 i0 1 Tryz.underlying25 hi _ _ _ rfl hown' rfl ?_)))
        go_ret
        refine ⟨_, rfl, ?_, (hBr.alloc hszr (.cells #[.int .i64 n] 3)).grown hgrow (by simp; omega) (fun r e => (HX.out.lt r e).1)⟩
        refine HEND.out _ _ ?_
        rw [HH.out]
        simpa using hown'
      · obtain ⟨g, cap, hyv, hcl⟩ := own_cellsI hy h0
        subst hyv
        have hcl2 : ∀ W, wr.grownBy W xo.ownBlock → ∀ j u, ((highL l n).map (Value.int .i64))[j]? = some u → W.cell? ((⟨g, 0, none⟩ : Addr).add j) = some u := fun W hW => by
          obtain ⟨g2, cap2, hv2, h3⟩ := own_cellsI (HY.out.kept hW HAP.out) h0
          cases hv2
          exact h3
        have HCL := Lib.hid hcl2
        clear hx hy hx0 hy0 hap hap2 hnot hp hall endp hcl hcl2 h0
        go_wp2_with (first
          | (at_builtin; (refine wpList_append_own _ rfl _ _ 25 rfl w.heap.size 3 i0 (.int .i64 0) 1 8 Tryz.underlying25 hi hz0 hz1 hz2 rfl (by decide) _ _ _ rfl (HX.out.alloc _) ⟨wr.heap.size, 0, none⟩ 1 1 [.int .i64 n] rfl rfl (cells_new wr 3 [.int .i64 n]) (by simp [Value.oneCell']) (by unfold maxLen; omega) (by omega) (by simp; omega) ?_; intro v' w2 hown' hgrow _))
          | (at_builtin; (refine wpList_append_own _ rfl _ _ 25 rfl w.heap.size 3 i0 (.int .i64 0) 1 8 Tryz.underlying25 hi hz0 hz1 hz2 rfl (by decide) _ _ _ rfl hown' ⟨g, 0, none⟩ (highL l n).length cap ((highL l n).map (Value.int .i64)) rfl (by simp) (HCL.out w2 (grown_alloc hgrow)) (fun u hu => by obtain ⟨x, _, rfl⟩ := List.mem_map.1 hu; rfl) (by unfold maxLen; omega) (by omega) (by have := hgrow.size; simp at this; omega) ?_; intro v2 w3 hown2 hgrow2 _)))
        go_ret
        refine ⟨_, rfl, HEND.out _ _ hown2, ?_⟩
        have hB3 := (hBr.alloc hszr (.cells #[.int .i64 n] 3)).grown hgrow (by simp; omega) (fun r e => (HX.out.lt r e).1)
        exact hB3.grown hgrow2 hB3.size (fun r e => (hown'.lt r e).1)
set_option maxRecDepth 100000 in
set_option maxHeartbeats 8000000 in
theorem r35book_any (s : Int) (l : List En) (v : Value) (n o day time : Int) (w : World) (h : SlE w w.heap.size v l) :
    Calls Tryz.prog 31 #[.int .i64 s, v, .int .i64 n, .int .i64 o, .int .i64 day, .int .i64 time] w fun e w' => ∃ x, e = .returned (.tuple #[x, .int .i64 (bookE s l n o day time)]) ∧ SlI w' w'.heap.size x (bookL s l n o day time) ∧ Below w.heap.size w w' := by
  have k := fun W => rkey_any s W
  have oo := fun W => roffice_any o W
  have O := Lib.hid oo
  have hst := r33stand_any l v day time w h
  have eb : ckE s o (manyP n) ≠ 0 → bookE s l n o day time = ckE s o (manyP n) ∧ bookL s l n o day time = [] := fun h => by
    have e : bookE s l n o day time = ckE s o (manyP n) := by unfold bookE; rw [if_neg h]
    exact ⟨e, by unfold bookL; rw [e, if_neg h]⟩
  cases hk : secK s with
  | false =>
    have e1 : ckE s o (manyP n) = 110 := by unfold ckE; rw [hk]; rfl
    obtain ⟨e2, e3⟩ := eb (by rw [e1]; decide)
    rw [e2, e3, e1]
    rw [hk] at k
    have K := Lib.hid k
    clear k oo hk e1 e2 e3 eb hst h
    go_enter Tryz.func31, Tryz.ntmps31
    go_wp2_with (first
      | (go_at_call 73; (with_reducible refine (K.out _).mono ?_); rintro e X ⟨rfl, hXX⟩; subst X)
      | (go_at_call 74; (with_reducible refine (O.out _).mono ?_); rintro e Y ⟨rfl, hYY⟩; subst Y))
    go_ret2
    exact ⟨_, rfl, SlG.nil_ _ _, Below.refl _ _⟩
  | true =>
    rw [hk] at k
    have K := Lib.hid k
    have e0 : ckE s o (manyP n) = if manyP n && offB o then 0 else 1 := by unfold ckE; rw [hk]; rfl
    by_cases h1 : n < 0
    · have e1 : ckE s o (manyP n) = 1 := by rw [e0]; unfold manyP; rw [decide_eq_false (show ¬ 0 ≤ n by omega)]; rfl
      obtain ⟨e2, e3⟩ := eb (by rw [e1]; decide)
      rw [e2, e3, e1]
      have f1 : decide (n < 0) = true := decide_eq_true h1
      clear k oo hk e0 e1 e2 e3 eb h1 hst h
      go_enter Tryz.func31, Tryz.ntmps31
      go_wp2_with (first
        | (go_at_call 73; (with_reducible refine (K.out _).mono ?_); rintro e X ⟨rfl, hXX⟩; subst X)
        | (go_at_call 74; (with_reducible refine (O.out _).mono ?_); rintro e Y ⟨rfl, hYY⟩; subst Y))
      go_ret2
      exact ⟨_, rfl, SlG.nil_ _ _, Below.refl _ _⟩
    have f1 : decide (n < 0) = false := decide_eq_false h1
    by_cases h2 : 1024 < n
    · have e1 : ckE s o (manyP n) = 1 := by rw [e0]; unfold manyP; rw [decide_eq_false (show ¬ n ≤ 1024 by omega), Bool.and_false]; rfl
      obtain ⟨e2, e3⟩ := eb (by rw [e1]; decide)
      rw [e2, e3, e1]
      have f2 : decide (1024 < n) = true := decide_eq_true h2
      clear k oo hk e0 e1 e2 e3 eb h1 h2 hst h
      go_enter Tryz.func31, Tryz.ntmps31
      go_wp2_with (first
        | (go_at_call 73; (with_reducible refine (K.out _).mono ?_); rintro e X ⟨rfl, hXX⟩; subst X)
        | (go_at_call 74; (with_reducible refine (O.out _).mono ?_); rintro e Y ⟨rfl, hYY⟩; subst Y))
      go_ret2
      exact ⟨_, rfl, SlG.nil_ _ _, Below.refl _ _⟩
    have f2 : decide (1024 < n) = false := decide_eq_false h2
    have hi : manyP n = true := by unfold manyP; simp only [Bool.and_eq_true, decide_eq_true_eq]; omega
    rw [hi, Bool.true_and] at e0
    cases ho : offB o with
    | false =>
      rw [ho] at e0 oo
      have e1 : ckE s o (manyP n) = 1 := by rw [hi]; exact e0
      obtain ⟨e2, e3⟩ := eb (by rw [e1]; decide)
      rw [e2, e3, e1]
      have O := Lib.hid oo
      clear k oo hk e0 e1 e2 e3 eb h1 h2 hi ho hst h
      go_enter Tryz.func31, Tryz.ntmps31
      go_wp2_with (first
        | (go_at_call 73; (with_reducible refine (K.out _).mono ?_); rintro e X ⟨rfl, hXX⟩; subst X)
        | (go_at_call 74; (with_reducible refine (O.out _).mono ?_); rintro e Y ⟨rfl, hYY⟩; subst Y))
      go_ret2
      exact ⟨_, rfl, SlG.nil_ _ _, Below.refl _ _⟩
    | true =>
      rw [ho] at e0 oo
      have e1 : ckE s o (manyP n) = 0 := by rw [hi]; exact e0
      have e2 : bookE s l n o day time = stE l day time := by unfold bookE; rw [if_pos e1]
      have O := Lib.hid oo
      obtain ⟨N, rfl⟩ : ∃ N : Nat, n = (N : Int) := ⟨n.toNat, by omega⟩
      have hN : N ≤ 1024 := by omega
      have t1 : ¬ 1024 < N := by omega
      by_cases hs : stE l day time = 0
      · have e3 : bookL s l N o day time = sortU (bookA s o (livK l o day time N)) := by unfold bookL; rw [e2, if_pos hs, Int.toNat_natCast]
        rw [e2, e3, hs]
        rw [hs] at hst
        obtain ⟨r1, _, r3⟩ := ckE_0 e1
        have hli := fun (k : Nat) (W : World) (hb : Below w.heap.size w W) => r35lives_any l v k o day time W ((h.below hb).mono hb.size)
        have hal := fun (k : Nat) (hk : k < N) (W : World) => ralias_any s k o (small3 ⟨by omega, by omega⟩ ⟨by omega, by omega⟩ ⟨by omega, by omega⟩) W
        have HST := Lib.hid hst
        have HLI := Lib.hid hli
        have HAL := Lib.hid hal
        clear k oo hk e0 e1 e2 e3 eb h1 h2 hi ho hst hli hal hs h r1 r3
        go_enter Tryz.func31, Tryz.ntmps31
        go_wp2_with (first
          | (go_at_call 73; (with_reducible refine (K.out _).mono ?_); rintro e X ⟨rfl, hXX⟩; subst X)
          | (go_at_call 74; (with_reducible refine (O.out _).mono ?_); rintro e Y ⟨rfl, hYY⟩; subst Y)
          | (go_at_call 79; (with_reducible refine HST.out.mono ?_); rintro e w1 ⟨⟨xv, rfl, _⟩, hB⟩))
        go_loopg [16, 17] N (fun g xv iv wr => ∃ k : Nat, iv = .int .i64 k ∧ k + g = N ∧ Below w.heap.size w wr ∧ SlI wr wr.heap.size xv (sortU (bookA s o (livK l o day time k))))
        case atStart => exact ⟨0, rfl, by omega, hB, by show SlI _ _ _ (sortU []); simp [sortU, nubI]; exact SlG.nil_ _ _⟩
        case round =>
          clear hB
          obtain ⟨k, rfl, hkg, hBr, hx⟩ := hrel
          obtain ⟨xo, rfl⟩ : ∃ xo : Value, xo = u16 := ⟨_, rfl⟩
          by_cases hlt : k < N
          · have hl := HLI.out k wr hBr
            have ha := HAL.out k hlt
            have hsn := livK_succ l o day time k
            have hsz := sortU_len (bookA s o (livK l o day time k))
            have hln := livK_len l o day time k
            have HXX := Lib.hid hx
            cases hb : livB l o day time k with
            | false =>
              rw [hb] at hl hsn
              rw [if_neg (by decide)] at hsn
              have HL := Lib.hid hl
              have HSN := Lib.hid hsn
              clear hl hsn hb ha hx hsz hln f1 f2 t1
              go_wp2_with (go_at_call 80; (with_reducible refine HL.out.mono ?_); rintro e w2 ⟨rfl, hb2⟩)
              go_roundg (gk - 1)
              case measure => omega
              case rel => exact ⟨k + 1, by first | rfl | go_num, by omega, hBr.trans (hb2.mono hBr.size), by rw [HSN.out]; exact (HXX.out.below hb2).mono hb2.size⟩
            | true =>
              rw [hb] at hl hsn
              rw [if_pos rfl] at hsn
              have hsu : sortU (bookA s o (livK l o day time (k + 1))) = putL (sortU (bookA s o (livK l o day time k))) (aliasN s k o) := by
                rw [hsn]; unfold bookA; rw [List.map_append]; exact sortU_snoc _ _
              obtain ⟨a, haa⟩ : ∃ a, aliasN s k o = a := ⟨_, rfl⟩
              rw [haa] at ha hsu
              have hSB : (sortU (bookA s o (livK l o day time k))).length ≤ 100000 := by unfold bookA at hsz ⊢; rw [List.length_map] at hsz; omega
              have HL := Lib.hid hl
              have HA := Lib.hid ha
              have HSU := Lib.hid hsu
              have HSB := Lib.hid hSB
              clear hl hsn hb ha hx hsz hln f1 f2 t1 haa hsu hSB
              go_wp2_with (first
                | (go_at_call 80; (with_reducible refine HL.out.mono ?_); rintro e w2 ⟨rfl, hb2⟩)
                | (go_at_call 75; (with_reducible refine (HA.out _).mono ?_); rintro e w3 ⟨rfl, hb3⟩)
                | (go_at_call 81; (with_reducible refine (r35put_any _ xo a _ ((((HXX.out.below hb2).mono hb2.size).below hb3).mono hb3.size) HSB.out).mono ?_); rintro e w4 ⟨x4, rfl, hx4, hb4⟩))
              go_roundg (gk - 1)
              case measure => omega
              case rel => exact ⟨k + 1, by first | rfl | go_num, by omega, hBr.trans (((hb2.trans (hb3.mono hb2.size)).trans (hb4.mono (Nat.le_trans hb2.size hb3.size))).mono hBr.size), by rw [HSU.out]; exact hx4⟩
          · obtain rfl : k = N := by omega
            have HXX := Lib.hid hx
            clear hx f1 f2 t1
            go_wp2
            go_ret2
            exact ⟨_, rfl, HXX.out, hBr⟩
      · have e3 : bookL s l N o day time = [] := by unfold bookL; rw [e2, if_neg hs]
        rw [e2, e3]
        obtain ⟨E, hE⟩ : ∃ E, stE l day time = E := ⟨_, rfl⟩
        rw [hE] at hst hs ⊢
        have z : (E != 0) = true := bne_iff_ne.2 hs
        have HST := Lib.hid hst
        clear k oo hk e0 e1 e2 e3 eb h1 h2 hi ho hst hs h hE
        go_enter Tryz.func31, Tryz.ntmps31
        go_wp2_with (first
          | (go_at_call 73; (with_reducible refine (K.out _).mono ?_); rintro e X ⟨rfl, hXX⟩; subst X)
          | (go_at_call 74; (with_reducible refine (O.out _).mono ?_); rintro e Y ⟨rfl, hYY⟩; subst Y)
          | (go_at_call 79; (with_reducible refine HST.out.mono ?_); rintro e w1 ⟨⟨xv, rfl, _⟩, hB⟩))
        go_ret2
        exact ⟨_, rfl, SlG.nil_ _ _, hB⟩
end Go.Proofs.YthckledagggoiaaGreatDoor
