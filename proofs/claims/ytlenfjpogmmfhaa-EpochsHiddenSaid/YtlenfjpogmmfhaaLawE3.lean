import Derived.Test.YtlenfjpogmmfhaaSaneW47
import Derived.Test.YtlenfjpogmmfhaaLaterP
namespace Go.Proofs.Ytlenfjpogmmfhaa
open Go.RowKit Fk

theorem infoEp : (Try.prog.info? 50).map (fun i => (i.zero, i.size, i.bytes)) = some (some (.agg #[.int .i64 0, .int .i64 0, .int .i64 0]), 3, 24) := by kernel_rfl
theorem cell_three_new (w : World) (x y z : Value) (t : TypeId) : ∀ j u, [x, y, z][j]? = some u → (w.alloc (.cells #[x, y, z] t)).cell? ((⟨w.heap.size, 0, none⟩ : Addr).add j) = some u := by
  intro j u hj
  match j, hj with
  | 0, hj => simp at hj; subst hj; simp [Addr.add]
  | 1, hj => simp at hj; subst hj; simp [Addr.add]
  | 2, hj => simp at hj; subst hj; simp [Addr.add]
  | (j + 3), hj => simp at hj

set_option maxRecDepth 100000 in
set_option maxHeartbeats 4000000 in
theorem epochsLater_walk (l : List Ep) (v : Value) (o t : Int) (w : World) (h : SlEp w w.heap.size v l) :
    Calls Try.prog 10 #[v, .int .i64 o, .int .i64 t] w fun e w' => e = .returned (.bool true) ∧ Below w.heap.size w w' := by
  have hv := h
  obtain ⟨hlen, A, c, rfl, _⟩ := hv
  have hB : Below w.heap.size w w := Below.refl _ _
  have HS := Lib.hid h
  by_cases hl : 40 < l.length
  · go_enter Try.func10, Try.ntmps10
    go_wp2_with (go_at_call 25; refine (sane47 _).mono ?_; rintro e w1 ⟨rfl, hb⟩; replace hB := hB.trans (hb.mono hB.size); clear hb)
    go_ret
    exact ⟨rfl, hB⟩
  have c3 := key_any l (.slice A l.length c) o t
  by_cases hE : keyE l o t = 0
  rotate_left
  · obtain ⟨q1, q2⟩ := later_err hE
    rw [q1, q2] at c3
    obtain ⟨E, hEE⟩ : ∃ E, keyE l o t = E := ⟨_, rfl⟩
    rw [hEE] at c3 hE
    have b1 : (E != 0) = true := by simpa using hE
    have H3 := Lib.hid c3
    clear q1 q2 c3 hEE hE
    go_enter Try.func10, Try.ntmps10
    go_wp2_with (first
      | (go_at_call 25; refine (sane47 _).mono ?_; rintro e w1 ⟨rfl, hb⟩; replace hB := hB.trans (hb.mono hB.size); clear hb)
      | (go_at_call 26; refine (H3.out _ _ hB.size (h.below hB)).mono ?_; rintro e w1 ⟨rfl, hb⟩; replace hB := hB.trans (hb.mono hB.size); clear hb))
    go_ret
    exact ⟨rfl, hB⟩
  obtain ⟨q1, q2, q3⟩ := later_less hE
  obtain ⟨q4, q5⟩ := later_ok hE
  have c4 := fun v => key_any (selL l o t) v o t
  rw [q1, q2, q3] at c4
  rw [hE] at c3
  obtain ⟨K, hK⟩ : ∃ K, keyC l o t = K := ⟨_, rfl⟩
  obtain ⟨O, hO⟩ : ∃ O, okC l o t = O := ⟨_, rfl⟩
  rw [hK, hO] at c3 c4
  rw [hK] at q4
  rw [hO] at q5
  have b2 : (K == K) = true := by simp
  have b3 : (O == O) = true := by simp
  have H3 := Lib.hid c3
  have H4 := Lib.hid c4
  have Q4 := Lib.hid q4
  have Q5 := Lib.hid q5
  have hsl := sel_len l o t
  clear c3 c4 q1 q2 q3 q4 q5 hE hK hO
  obtain ⟨i0, hi, hz0, hz1, hz2⟩ := info_parts infoEp
  go_enter Try.func10, Try.ntmps10
  go_wp2_with (first
    | (go_at_call 25; refine (sane47 _).mono ?_; rintro e w1 ⟨rfl, hb⟩; replace hB := hB.trans (hb.mono hB.size); clear hb)
    | (go_at_call 26; refine (H3.out _ _ hB.size (h.below hB)).mono ?_; rintro e w1 ⟨rfl, hb⟩; replace hB := hB.trans (hb.mono hB.size); clear hb))
  go_loopg [10, 11] l.length (fun g r x wr => Below w.heap.size w wr ∧ ∃ k : Nat, x = .int .i64 k ∧ k + g = l.length ∧ wr.ownsRow w.heap.size 50 3 r (selL (l.take k) o t).length ((selL (l.take k) o t).flatMap encEp))
  case atStart => exact ⟨hB, 0, rfl, by omega, by simpa [selL] using World.ownsRow_nil _ _ _ _⟩
  case round =>
    clear hB
    obtain ⟨hBr, k, rfl, hk, hown⟩ := hrel
    have hzw := hBr.size
    by_cases hlt : k < l.length
    · obtain ⟨_, A', c', hv, hE0⟩ := HS.out.below hBr
      obtain ⟨b, off, rfl, hb, hE⟩ := hE0 (by omega)
      clear hE0
      cases hv
      obtain ⟨d1, d2, d3⟩ := hE k hlt
      have hts := take_snocD hlt
      have hs := selL_snoc (l.take k) o t (l.getD k default)
      rw [← hts] at hs
      obtain ⟨x, hx⟩ : ∃ x, l.getD k default = x := ⟨_, rfl⟩
      rw [hx] at d1 d2 d3 hs
      have hsz := sel_len (l.take k) o t
      rw [List.length_take] at hsz
      have hsz2 : (selL (l.take k) o t).length ≤ k := by omega
      clear hts hx hE hsz
      by_cases ho : (x.o == o) = true
      · by_cases hf : x.f ≤ t
        · rw [if_pos (by simp [hf]; simpa using ho)] at hs
          have HD := Lib.hid hs
          clear hs
          go_wp2_with (at_builtin; refine wpList_append_own _ rfl _ _ 34 rfl w.heap.size 50 i0 (.agg #[.int .i64 0, .int .i64 0, .int .i64 0]) 3 24 Try.underlying34 hi hz0 hz1 hz2 rfl (by decide) _ _ _ rfl (hown.alloc _) ⟨wr.heap.size, 0, none⟩ 1 1 [.int .i64 x.o, .int .i64 x.f, .int .i64 x.k] rfl rfl (cell_three_new _ _ _ _ _) (by simp [Value.oneCell']) (by unfold maxLen; omega) (by omega) (by simp; omega) ?_; intro v' w2 hown' hgrow _)
          go_roundg (gk - 1)
          case measure => omega
          case rel =>
            refine ⟨(hBr.alloc hBr.size _).grown hgrow (by simp; omega) (fun r e => (hown.lt r e).1), k + 1, by go_num, by omega, ?_⟩
            rw [HD.out, List.flatMap_append, List.length_append]
            exact hown'
        · rw [if_neg (by simp [hf])] at hs
          have HD := Lib.hid hs
          clear hs
          go_wp2
          go_roundg (gk - 1)
          case measure => omega
          case rel => exact ⟨hBr, k + 1, by go_num, by omega, by rw [HD.out]; exact hown⟩
      · have ho' : (x.o == o) = false := by simpa using ho
        rw [if_neg (by simp [ho'])] at hs
        have HD := Lib.hid hs
        clear hs ho
        go_wp2
        go_roundg (gk - 1)
        case measure => omega
        case rel => exact ⟨hBr, k + 1, by go_num, by omega, by rw [HD.out]; exact hown⟩
    · obtain rfl : k = l.length := by omega
      rw [List.take_length] at hown
      have hr : SlEp wr wr.heap.size u10 (selL l o t) := SlG.ep (own_sl hown (fun _ => rfl) rfl (by omega))
      have hr2 := hr
      obtain ⟨_, A2, c2, rfl, hE2⟩ := hr2
      have hc4 := H4.out (.slice A2 (selL l o t).length c2) wr _ (Nat.le_refl _) hr
      by_cases he : (selL l o t).length = 0
      · have hnil : selL l o t = [] := List.eq_nil_of_length_eq_zero he
        have e1 := Q5.out
        have e2 := Q4.out
        rw [hnil] at e1 e2
        rw [he] at hc4 ⊢
        obtain rfl : O = false := e1
        obtain rfl : K = 0 := e2
        have HC := Lib.hid hc4
        clear hc4 hown hE2 hr hnil he hsl
        go_wp2_with (go_at_call 26; refine HC.out.mono ?_; rintro e w1 ⟨rfl, hb⟩; replace hBr := hBr.trans (hb.mono hBr.size); clear hb)
        go_ret
        exact ⟨rfl, hBr⟩
      · have e1 : O = true := by
          rw [Q5.out]
          cases hs : selL l o t with
          | nil => rw [hs] at he; simp at he
          | cons a r => rfl
        subst e1
        obtain ⟨b, off, rfl, hb0, hE⟩ := hE2 (by omega)
        have e2 : K = ((selL l o t).getD ((selL l o t).length - 1) default).k := by rw [Q4.out, lastK_get (by omega)]
        have hcell := (hE ((selL l o t).length - 1) (by omega)).2.2
        rw [← e2] at hcell
        have hD := fun (W : World) (hW : Below wr.heap.size wr W) => ((bcellK hW).1 b (off + ((selL l o t).length - 1) * 3 + 2) hb0).trans hcell
        clear hE hE2 hr e2 hcell hown
        obtain ⟨n, hn⟩ : ∃ n, (selL l o t).length = n := ⟨_, rfl⟩
        rw [hn] at hD hc4 he hsl ⊢
        have HC := Lib.hid hc4
        have HDD := Lib.hid hD
        clear hc4 hD hn
        have s0 : 0 < n := by omega
        have s3 : ((n : Int) - 1).toNat = n - 1 := by omega
        clear he
        go_wp2_with (go_at_call 26; refine HC.out.mono ?_; rintro e w1 ⟨rfl, hb⟩; have d3 := HDD.out _ hb; replace hBr := hBr.trans (hb.mono hBr.size); clear hb)
        go_ret
        exact ⟨rfl, hBr⟩
end Go.Proofs.Ytlenfjpogmmfhaa
