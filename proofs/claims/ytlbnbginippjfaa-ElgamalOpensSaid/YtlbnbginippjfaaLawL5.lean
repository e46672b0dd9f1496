import Derived.Test.YtlbnbginippjfaaElT
import Derived.Test.YtlbnbginippjfaaEl15
import Derived.Test.YtlbnbginippjfaaEl18
import Derived.Test.YtlbnbginippjfaaElK
import Derived.Test.YtlbnbginippjfaaStep
import Derived.Test.YtlbnbginippjfaaOrd
import Derived.Test.YtlbnbginippjfaaElQ
import Derived.Test.YtlbnbginippjfaaElF
import Derived.Test.YtlbnbginippjfaaLawL3
import Derived.RegionTactic
import Derived.Deep.RegionWith
import Derived.ChangeAlike
import Derived.BigRegion
import Derived.IntWalk
set_option linter.unusedSimpArgs false
set_option linter.unusedVariables false
namespace Go.Proofs.Ytlbnbginippjfaa
open Go.RowKit Fk
theorem zrow {W w9 : World} {t : TypeId} {a0 a1 a2 a3 a4 a5 : Value} (hb : Below (W.alloc (.cells #[a0, a1, a2, a3, a4, a5] t)).drew.heap.size (W.alloc (.cells #[a0, a1, a2, a3, a4, a5] t)).drew w9) : Row w9 W.heap.size t [a0, a1, a2, a3, a4, a5] :=
  Row.keep (Row.keep (Row.new W t [a0, a1, a2, a3, a4, a5]) rfl) (hb.block _ (by show _ < (W.alloc _).heap.size; simp))
theorem zb {W w9 : World} (hb : Below W.drew.heap.size W.drew w9) : Below W.heap.size W w9 := (Below.refl _ W).drew.trans hb
theorem za {W w9 : World} {o : Obj} (hb : Below (W.alloc o).drew.heap.size (W.alloc o).drew w9) : Below W.heap.size W w9 :=
  ((Below.refl _ W).alloc (Nat.le_refl _) o).drew.trans (hb.mono (by show _ ≤ (W.alloc _).heap.size; simp))
theorem fin_b {w W2 w9 : World} {t : TypeId} {a0 a1 a2 a3 a4 a5 : Value} (hB : Below w.heap.size w W2) (hb : Below W2.heap.size W2 w9) :
    Below w.heap.size w (w9.alloc (.cells #[a0, a1, a2, a3, a4, a5] t)) ∧ (∀ g t' vs, Row W2 g t' vs → Row (w9.alloc (.cells #[a0, a1, a2, a3, a4, a5] t)) g t' vs) ∧ Row (w9.alloc (.cells #[a0, a1, a2, a3, a4, a5] t)) w9.heap.size t [a0, a1, a2, a3, a4, a5] := by
  obtain ⟨h1, h2, h3⟩ := step0 hB hb
  exact ⟨h1.alloc h1.size _, fun g t' vs h => (h3 _ _ _ h).alloc _, Row.new w9 t [a0, a1, a2, a3, a4, a5]⟩
theorem fin_a {w W2 w9 : World} {t : TypeId} {z0 z1 z2 z3 z4 z5 a0 a1 a2 a3 a4 a5 : Value} (hB : Below w.heap.size w W2) (hb : Below W2.heap.size W2 w9) (z : Row w9 W2.heap.size t [z0, z1, z2, z3, z4, z5]) :
    Below w.heap.size w ((((((w9.setCell ⟨W2.heap.size, 0, none⟩ a0).setCell ⟨W2.heap.size, 1, none⟩ a1).setCell ⟨W2.heap.size, 2, none⟩ a2).setCell ⟨W2.heap.size, 3, none⟩ a3).setCell ⟨W2.heap.size, 4, none⟩ a4).setCell ⟨W2.heap.size, 5, none⟩ a5) ∧
    (∀ g t' vs, Row W2 g t' vs → Row ((((((w9.setCell ⟨W2.heap.size, 0, none⟩ a0).setCell ⟨W2.heap.size, 1, none⟩ a1).setCell ⟨W2.heap.size, 2, none⟩ a2).setCell ⟨W2.heap.size, 3, none⟩ a3).setCell ⟨W2.heap.size, 4, none⟩ a4).setCell ⟨W2.heap.size, 5, none⟩ a5) g t' vs) ∧
    Row ((((((w9.setCell ⟨W2.heap.size, 0, none⟩ a0).setCell ⟨W2.heap.size, 1, none⟩ a1).setCell ⟨W2.heap.size, 2, none⟩ a2).setCell ⟨W2.heap.size, 3, none⟩ a3).setCell ⟨W2.heap.size, 4, none⟩ a4).setCell ⟨W2.heap.size, 5, none⟩ a5) W2.heap.size t [a0, a1, a2, a3, a4, a5] := by
  obtain ⟨h1, h2, h3⟩ := step0 hB hb
  have hz := hB.size
  refine ⟨(((((h1.setCell hz _).setCell hz _).setCell hz _).setCell hz _).setCell hz _).setCell hz _, fun g t' vs h => ?_, ?_⟩
  · have hl : g ≠ W2.heap.size := Nat.ne_of_lt (Row.lt h)
    exact Row.oth (Row.oth (Row.oth (Row.oth (Row.oth (Row.oth (h3 _ _ _ h) hl _) hl _) hl _) hl _) hl _) hl _
  · exact Row.store (Row.store (Row.store (Row.store (Row.store (Row.store z 0 _) 1 _) 2 _) 3 _) 4 _) 5 _
theorem right_sub {l : List Int} (h : rightB l = true) (k : Nat) : rightB (l.take k ++ l.drop (k + 1)) = true := by
  unfold rightB at *
  simp only [Bool.and_eq_true, decide_eq_true_eq, List.all_eq_true] at *
  refine ⟨fun x hx => h.1 x ?_, by simp; omega⟩
  rcases List.mem_append.1 hx with hx | hx
  · exact List.mem_of_mem_take hx
  · exact List.mem_of_mem_drop hx
set_option maxRecDepth 100000 in
set_option maxHeartbeats 4000000 in
theorem part_main (l : List Int) (b off c : Nat) (t r : Tr) (n : Int) (w : World) (h : SlI w w.heap.size (.slice (some ⟨b, off, none⟩) l.length c) l) (hok : rightB l = true) (hw : wOK t = true) (hl : 1 ≤ l.length) (hl5 : l.length ≤ 5) (hc1 : l.length ≤ c) (hc2 : c ≤ maxLen) (hn : 0 ≤ n ∧ n ≤ 255) :
    Calls Try.prog 6 #[.slice (some ⟨b, off, none⟩) l.length c, t.val, r.val, .int .u8 n] w fun e w' => e = .returned (.bool true) ∧ Below w.heap.size w w' := by
  have HS := Lib.hid h
  have c2 := fun w => words_any t w
  rw [hw] at c2
  have c1 := fun (W : World) (B0 : Nat) (h : SlI W B0 (.slice (some ⟨b, off, none⟩) l.length c) l) => right_any l _ W B0 h
  rw [hok] at c1
  have H1 := Lib.hid c1
  have H2 := Lib.hid c2
  obtain ⟨n1, n2⟩ := hn
  have hlz : (l.length : Int) ≠ 0 := by omega
  have hlz2 : ((l.length : Int) == 0) = false := beq_eq_false_iff_ne.2 hlz
  have k1 := fun (W : World) (h : SlI W W.heap.size (.slice (some ⟨b, off, none⟩) l.length c) l) => keys_any l _ W h hok
  have k2 := fun (k : Nat) (W : World) (v : Value) (h : SlI W W.heap.size v (l.take k ++ l.drop (k + 1))) => keys_any _ v W h (right_sub hok k)
  have k3 := fun (k : Nat) (hk : k < l.length) => part_calls hok hk hw r
  have K1 := Lib.hid k1
  have KK := Lib.hid k2
  have K3 := Lib.hid k3
  clear c1 c2 h hok hw k1 k2 k3
  unfold Tr.val
  obtain ⟨i0, hi, hz0, hz1, hz2⟩ := info_parts infoI4
  go_enter Try.func6, Try.ntmps6
  go_wp2_with (first
    | (go_at_call 11; (with_reducible refine (sane10 _).mono ?_); rintro e w1 ⟨rfl, hb⟩; obtain ⟨hB, hz, p0, p1⟩ := stepP2 hb; clear hb; obtain ⟨q0, q1, q2⟩ := st3 p0; obtain ⟨r0, r1, r2⟩ := st3 p1)
    | (go_at_call 20; refine (H1.out _ _ (HS.out.below hB)).mono ?_; rintro e wq ⟨rfl, rfl⟩)
    | (go_at_call 21; refine (H2.out _).mono ?_; rintro e w3 ⟨rfl, hb⟩; obtain ⟨hB, hzn, hk⟩ := step0 hB hb; replace hz := lt_t hz hzn; replace p0 := hk _ _ _ p0; replace p1 := hk _ _ _ p1; clear hb hk hzn q0 q1 q2 r0 r1 r2; obtain ⟨q0, q1, q2⟩ := st3 p0; obtain ⟨r0, r1, r2⟩ := st3 p1))
  obtain ⟨k, hk, hkl⟩ : ∃ k : Nat, n % (l.length : Int) = k ∧ k < l.length := ⟨(n % (l.length : Int)).toNat, by have := Int.emod_nonneg n hlz; omega, by have := Int.emod_lt_of_pos n (show (0 : Int) < l.length by omega); have := Int.emod_nonneg n hlz; omega⟩
  rw [hk]
  unfold maxLen at hc2
  have k2 := KK.out k
  obtain ⟨A, B, m1, m2, m3⟩ := K3.out k hkl
  have hgd := List.getD_eq_getElem?_getD (l := l) (i := k) (a := default)
  obtain ⟨sk, hsk⟩ : ∃ sk, l.getD k default = sk := ⟨_, rfl⟩
  rw [hsk] at m2
  obtain ⟨ja, hja⟩ : ∃ ja, joinC (pubs l) = ja := ⟨_, rfl⟩
  obtain ⟨jb, hjb⟩ : ∃ jb, joinC (pubs (l.take k ++ l.drop (k + 1))) = jb := ⟨_, rfl⟩
  rw [hja] at m1 K1
  rw [hjb] at m3 k2
  have bq := fun w => runS B B w
  rw [eqSe_self] at bq
  unfold Se.val at m1 m2 m3 bq
  unfold Tr.val at m1 m3
  have K2 := Lib.hid k2
  have M1 := Lib.hid m1
  have M2 := Lib.hid m2
  have M3 := Lib.hid m3
  clear KK K3 k2 m1 m2 m3 hgd hja hjb
  have hSl := HS.out.below hB
  have hzz := hB.size
  obtain ⟨W1, hW1⟩ : ∃ W1 : World, w3.drew = W1 := ⟨_, rfl⟩
  have hw1 : IntKind.i64.wrap ((k : Int) + 1) = ((k + 1 : Nat) : Int) := by rw [IntWalk.i64_in _ (by omega)]; omega
  have hkc : k ≤ c := by omega
  obtain ⟨ad, had, had2⟩ : ∃ ad : Addr, (if c = k + 1 then some (⟨b, off, none⟩ : Addr) else some ⟨b, off + (k + 1), none⟩) = some ad ∧ (k + 1 < l.length → ad = ⟨b, off + (k + 1), none⟩) := by
    by_cases e : c = k + 1
    · exact ⟨_, if_pos e, fun h => by omega⟩
    · exact ⟨_, if_neg e, fun _ => rfl⟩
  refine wp_region_ord 10 [(1, 1), (1, 2), (1, 3), (1, 5), (1, 6), (1, 7), (1, 8), (2, 0), (2, 4), (2, 9)]
    (fun _ => True) (by kernel_rfl) (by kernel_rfl) (fun _ _ d _ _ h => by cases d <;> exact h) trivial ?_
  iterate 2
    refine wpOrd_take (v := ?_) rfl (by rfl) (fun w hSw => ?_) ?_
    rotate_left 1
    · go_simp
      with_reducible rfl
    simp only [Act.put, List.setIfInBounds_toArray, List.set_cons_zero, List.set_cons_succ]
  refine wpOrd_take (v := .slice (some ⟨b, off, none⟩) k c) rfl (by rfl) (fun w hSw => ?_) ?_
  · go_simp
  simp only [Act.put, List.setIfInBounds_toArray, List.set_cons_zero, List.set_cons_succ]
  iterate 2
    refine wpOrd_take (v := ?_) rfl (by rfl) (fun w hSw => ?_) ?_
    rotate_left 1
    · go_simp
      with_reducible rfl
    simp only [Act.put, List.setIfInBounds_toArray, List.set_cons_zero, List.set_cons_succ]
  refine wpOrd_take (v := .int .i64 ((k + 1 : Nat) : Int)) rfl (by rfl) (fun w hSw => ?_) ?_
  · go_simp
  simp only [Act.put, List.setIfInBounds_toArray, List.set_cons_zero, List.set_cons_succ]
  refine wpOrd_take (v := .slice (some ad) (l.length - (k + 1)) (c - (k + 1))) rfl (by rfl) (fun w hSw => ?_) ?_
  · go_simp
    intro hx; exact absurd (hx (by omega)) (by omega)
  simp only [Act.put, List.setIfInBounds_toArray, List.set_cons_zero, List.set_cons_succ]
  refine wpOrd_step rfl (fun K hK => ⟨by rfl, ?_⟩)
  go_simp
  have hB1 : Below w.heap.size w W1 := by rw [← hW1]; exact hB.drew
  have hS1 : SlI W1 w.heap.size (.slice (some ⟨b, off, none⟩) l.length c) l := HS.out.below hB1
  have g0 : Row W1 w.heap.size 30 [.int .i64 t.p, .int .i64 t.q, .int .i64 t.r] := by rw [← hW1]; exact Row.keep p0 rfl
  have g1 : Row W1 (w.heap.size + 1) 29 [.int .i64 r.p, .int .i64 r.q, .int .i64 r.r] := by rw [← hW1]; exact Row.keep p1 rfl
  have hz1' : w.heap.size + 1 < W1.heap.size := by rw [← hW1]; exact hz
  refine hK _ _ trivial ?_
  clear hK K p0 p1 q0 q1 q2 r0 r1 r2 hSl hz hzz hW1 hB
  refine wpOrd_step rfl (fun K hK => ⟨by rfl, ?_⟩)
  refine wp_append_own _ _ _ 22 rfl W1.heap.size 3 i0 (.int .i64 0) 1 8 Try.underlying22 hi hz0 hz1 hz2 rfl (by decide) _ 0 [] rfl (own_empty _ _) ⟨b, off, none⟩ k c ((l.take k).flatMap encI) rfl (by rw [flat_int]; simp; omega) (fun j u hu => news_at (HS.out.below (hB1.alloc hB1.size _)) hl 0 (l.take k) (fun j hj => by rw [List.length_take] at hj; exact ⟨by omega, by rw [Nat.zero_add, List.getD_eq_getElem?_getD, List.getD_eq_getElem?_getD, List.getElem?_take_of_lt (by omega)]⟩) j u hu)
    (fun u hu => by rw [flat_int] at hu; obtain ⟨x, _, rfl⟩ := List.mem_map.1 hu; rfl) (by unfold maxLen; omega) (by omega) (by simp) ?_
  intro v1 w4 hown hgrow _
  have hz4 := hgrow.size
  simp at hz4
  have hB4 : Below w.heap.size w w4 := (hB1.alloc hB1.size _).grown hgrow (by have := hB1.size; simp; omega) (fun r e => by cases e; have := hB1.size; omega)
  refine hK _ _ trivial ?_
  clear hK K
  simp only [Act.put, List.setIfInBounds_toArray, List.set_cons_zero, List.set_cons_succ]
  refine wpOrd_step rfl (fun K hK => ⟨by rfl, ?_⟩)
  refine wp_append_own _ _ _ 22 rfl W1.heap.size 3 i0 (.int .i64 0) 1 8 Try.underlying22 hi hz0 hz1 hz2 rfl (by decide) _ _ _ rfl hown ad (l.length - (k + 1)) (c - (k + 1)) ((l.drop (k + 1)).flatMap encI) rfl (by rw [flat_int]; simp) (fun j u hu => ?news) (fun u hu => by rw [flat_int] at hu; obtain ⟨x, _, rfl⟩ := List.mem_map.1 hu; rfl) (by unfold maxLen; omega) (by omega) (by omega) ?_
  case news =>
    have hlt : k + 1 < l.length := by
      rw [flat_int] at hu
      have := (List.getElem?_eq_some_iff.1 hu).1
      simp at this
      omega
    rw [had2 hlt]
    exact news_at (HS.out.below hB4) hl (k + 1) (l.drop (k + 1)) (fun j hj => by rw [List.length_drop] at hj; exact ⟨by omega, by rw [List.getD_eq_getElem?_getD, List.getD_eq_getElem?_getD, List.getElem?_drop]⟩) j u hu
  intro v2 w5 hown2 hgrow2 _
  have hB5 : Below w.heap.size w w5 := hB4.grown hgrow2 hB4.size (fun r e => by have := (hown.lt r e).1; omega)
  refine hK _ _ trivial ?_
  clear hK K
  simp only [Act.put, List.setIfInBounds_toArray, List.set_cons_zero, List.set_cons_succ]
  refine wpOrd_nil ?_
  simp only [List.drop_succ_cons, List.drop_zero]
  have hC4 : Below W1.heap.size W1 w4 := ((Below.refl W1.heap.size W1).alloc (Nat.le_refl _) _).grown hgrow (by simp) (fun r e => by cases e; exact Nat.le_refl _)
  have hC5 : Below W1.heap.size W1 w5 := hC4.grown hgrow2 hC4.size (fun r e => (hown.lt r e).1)
  have p0 := Row.keep g0 (hC5.block _ (by omega))
  have p1 := Row.keep g1 (hC5.block _ hz1')
  have hso : SlI w5 w5.heap.size v2 (l.take k ++ l.drop (k + 1)) := by
    refine own_slI (n := 0 + k + (l.length - (k + 1))) (base := W1.heap.size) (e := 3) (m := 1) (enc := encI) ?_ (fun _ => rfl) (by simp; omega) (by simp; omega)
    rw [List.flatMap_append]
    simpa using hown2
  have hzp1 : w.heap.size + 1 < w5.heap.size := by have := hC5.size; omega
  clear hown hown2 hgrow hgrow2 hC4 hC5 hB4 hB1 g0 g1 had had2 hw1 hS1 hz4
  obtain ⟨p0c0, p0c1, p0c2⟩ := st3 p0
  obtain ⟨p1c0, p1c1, p1c2⟩ := st3 p1
  have hzp0 := lt_s hzp1
  have hB := hB5
  clear hB5
  go_wp2_with (first
    | (go_at_call 22; (with_reducible refine (K1.out _ ((HS.out.below hB).mono hB.size)).mono ?_); rintro e w6 ⟨v6, rfl, hb⟩; replace hso := hso.below hb; obtain ⟨hB, hzn, hk⟩ := step0 hB hb; replace hso := hso.mono hzn; replace p0 := hk _ _ _ p0; replace hzp0 := lt_t hzp0 hzn; replace p1 := hk _ _ _ p1; replace hzp1 := lt_t hzp1 hzn; clear hzn hk hb; clear p0c0 p0c1 p0c2 p1c0 p1c1 p1c2; obtain ⟨p0c0, p0c1, p0c2⟩ := st3 p0; obtain ⟨p1c0, p1c1, p1c2⟩ := st3 p1)
    | (go_at_call 22; (with_reducible refine (K2.out _ _ hso).mono ?_); rintro e w7 ⟨v7, rfl, hb⟩; obtain ⟨hB, hzn, hk⟩ := step0 hB hb; replace p0 := hk _ _ _ p0; replace hzp0 := lt_t hzp0 hzn; replace p1 := hk _ _ _ p1; replace hzp1 := lt_t hzp1 hzn; clear hzn hk hb hso; clear p0c0 p0c1 p0c2 p1c0 p1c1 p1c2; obtain ⟨p0c0, p0c1, p0c2⟩ := st3 p0; obtain ⟨p1c0, p1c1, p1c2⟩ := st3 p1)
    | (go_at_call 16; (with_reducible refine (M1.out _).mono ?_); rintro e w8 ⟨rfl, hb⟩; obtain ⟨hB, hzn, hk⟩ := step0 hB hb; replace p0 := hk _ _ _ p0; replace hzp0 := lt_t hzp0 hzn; replace p1 := hk _ _ _ p1; replace hzp1 := lt_t hzp1 hzn; clear hzn hk hb; clear p0c0 p0c1 p0c2 p1c0 p1c1 p1c2))
  have dk : w8.cell? ⟨b, off + k, none⟩ = some (.int .i64 sk) := by
    obtain ⟨_, A', c', hv, hE⟩ := HS.out.below hB
    obtain ⟨b', off', rfl, hb, hE⟩ := hE (by omega)
    cases hv
    have d := hE.int hkl
    rw [hsk] at d
    exact d
  have hbz : b < w8.heap.size := by
    obtain ⟨_, A', c', hv, hE⟩ := HS.out.below hB
    obtain ⟨b', off', rfl, hb, hE⟩ := hE (by omega)
    cases hv
    have := hB.size
    omega
  have s1 : (0 : Int) ≤ k := by omega
  have s2 : (k : Int) < l.length := by omega
  have r8 : Row (w8.alloc (.cells #[.int .i64 A.x.a, .int .i64 A.x.b, .int .i64 A.y.a, .int .i64 A.y.b, .int .i64 A.z.a, .int .i64 A.z.b] 34)) w8.heap.size 34 [.int .i64 A.x.a, .int .i64 A.x.b, .int .i64 A.y.a, .int .i64 A.y.b, .int .i64 A.z.a, .int .i64 A.z.b] := Row.new w8 _ _
  have hz8 : w8.heap.size < (w8.alloc (.cells #[.int .i64 A.x.a, .int .i64 A.x.b, .int .i64 A.y.a, .int .i64 A.y.b, .int .i64 A.z.a, .int .i64 A.z.b] 34)).heap.size := by simp
  replace hB := hB.alloc hB.size (.cells #[.int .i64 A.x.a, .int .i64 A.x.b, .int .i64 A.y.a, .int .i64 A.y.b, .int .i64 A.z.a, .int .i64 A.z.b] 34)
  replace p0 := p0.alloc (.cells #[.int .i64 A.x.a, .int .i64 A.x.b, .int .i64 A.y.a, .int .i64 A.y.b, .int .i64 A.z.a, .int .i64 A.z.b] 34)
  replace p1 := p1.alloc (.cells #[.int .i64 A.x.a, .int .i64 A.x.b, .int .i64 A.y.a, .int .i64 A.y.b, .int .i64 A.z.a, .int .i64 A.z.b] 34)
  replace dk : (w8.alloc (.cells #[.int .i64 A.x.a, .int .i64 A.x.b, .int .i64 A.y.a, .int .i64 A.y.b, .int .i64 A.z.a, .int .i64 A.z.b] 34)).cell? ⟨b, off + k, none⟩ = some (.int .i64 sk) := (World.cell?_alloc_past _ _ _ hbz).trans dk
  obtain ⟨W2, hW2⟩ : ∃ W2 : World, w8.alloc (.cells #[.int .i64 A.x.a, .int .i64 A.x.b, .int .i64 A.y.a, .int .i64 A.y.b, .int .i64 A.z.a, .int .i64 A.z.b] 34) = W2 := ⟨_, rfl⟩
  rw [hW2] at r8 hz8 hB p0 p1 dk
  rw [hW2]
  clear hW2
  have hbz2 : b < W2.heap.size := by omega
  obtain ⟨c0, c1, c2, c3, c4, c5⟩ := st6 r8
  go_region_with (go_at_call 23; (with_reducible refine (M2.out _).mono ?_); rintro e w9 ⟨rfl, hb⟩; first | (have z := zrow hb; have hb2 := za hb; obtain ⟨z0, z1, z2, z3, z4, z5⟩ := st6 z; have y0 := Row.frozen z 0; have y1 := Row.frozen z 1; have y2 := Row.frozen z 2; have y3 := Row.frozen z 3; have y4 := Row.frozen z 4; have y5 := Row.frozen z 5; have hzz := Row.lt z; have fin := fin_a (a0 := .int .i64 B.x.a) (a1 := .int .i64 B.x.b) (a2 := .int .i64 B.y.a) (a3 := .int .i64 B.y.b) (a4 := .int .i64 B.z.a) (a5 := .int .i64 B.z.b) hB hb2 z) | (have hb2 := zb hb; have fin := fin_b (t := 34) (a0 := .int .i64 B.x.a) (a1 := .int .i64 B.x.b) (a2 := .int .i64 B.y.a) (a3 := .int .i64 B.y.b) (a4 := .int .i64 B.z.a) (a5 := .int .i64 B.z.b) hB hb2))
  all_goals
    obtain ⟨hB', hk', rB⟩ := fin
    replace p0 := hk' _ _ _ p0
    replace p1 := hk' _ _ _ p1
    have hzB := Row.lt rB
    have hz0' := Row.lt p0
    have hz1' := Row.lt p1
    obtain ⟨d0, d1, d2⟩ := st3 p0
    obtain ⟨e0, e1, e2⟩ := st3 p1
    obtain ⟨f0, f1, f2, f3, f4, f5⟩ := st6 rB
    clear hk'
    go_wp2_with (go_at_call 16; (with_reducible refine (M3.out _).mono ?_); rintro e w10 ⟨rfl, hb3⟩; obtain ⟨hB, hzn, hk⟩ := step0 hB' hb3; replace rB := hk _ _ _ rB; clear d0 d1 d2 e0 e1 e2 f0 f1 f2 f3 f4 f5; obtain ⟨f0, f1, f2, f3, f4, f5⟩ := st6 rB; replace hzB := lt_t hzB hzn; clear hk)
    go_ret
    exact ⟨rfl, hB.alloc hB.size _⟩
end Go.Proofs.Ytlbnbginippjfaa
