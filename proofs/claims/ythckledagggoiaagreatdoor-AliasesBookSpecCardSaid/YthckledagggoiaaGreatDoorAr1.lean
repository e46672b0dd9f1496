import Derived.Test.YthckledagggoiaaGreatDoorPj
import Derived.Test.YthckledagggoiaaGreatDoorAs2
import Derived.Deep.LoopGhost
set_option linter.unusedSimpArgs false
set_option linter.unusedVariables false
namespace Go.Proofs.YthckledagggoiaaGreatDoor
open Go.RowKit Fk Sha
/-! The reference's key, office, alias, Alias, Find. -/
theorem rmax (E : Int) (h : 0 ≤ E) : (if 1 < E then E else 1) = if E = 0 then 1 else E := by
  by_cases h1 : 1 < E
  · rw [if_pos h1, if_neg (by omega)]
  · by_cases h2 : E = 0
    · rw [if_neg h1, if_pos h2]
    · rw [if_neg h1, if_neg h2]; omega
theorem hashN_0 (d : List B) : 0 ≤ hashN d := by unfold hashN; omega
set_option maxHeartbeats 1000000 in
theorem rkey_any (n : Int) (w : World) : Calls Tryz.prog 73 #[.int .i64 n] w fun e w' => e = .returned (.bool (secK n)) ∧ w = w' := by
  unfold secK
  obtain ⟨b1, h1⟩ : ∃ b, decide (1 ≤ n) = b := ⟨_, rfl⟩
  obtain ⟨b2, h2⟩ : ∃ b, decide (n < 1073741789) = b := ⟨_, rfl⟩
  rw [h1, h2]
  cases b1 <;> cases b2
  all_goals
    go_enter Tryz.func73, Tryz.ntmps73
    go_wp2
    go_ret
    exact ⟨rfl, rfl⟩
set_option maxHeartbeats 1000000 in
theorem roffice_any (n : Int) (w : World) : Calls Tryz.prog 74 #[.int .i64 n] w fun e w' => e = .returned (.bool (offB n)) ∧ w = w' := by
  unfold offB
  obtain ⟨b1, h1⟩ : ∃ b, decide (0 ≤ n) = b := ⟨_, rfl⟩
  obtain ⟨b2, h2⟩ : ∃ b, decide (n < 24) = b := ⟨_, rfl⟩
  rw [h1, h2]
  cases b1 <;> cases b2
  all_goals
    go_enter Tryz.func74, Tryz.ntmps74
    go_wp2
    go_ret
    exact ⟨rfl, rfl⟩
set_option maxRecDepth 100000 in
set_option maxHeartbeats 4000000 in
theorem ralias_any (s p o : Int) (hs : smallI [s, p, o]) (w : World) :
    Calls Tryz.prog 75 #[.int .i64 s, .int .i64 p, .int .i64 o] w fun e w' => e = .returned (.int .i64 (aliasN s p o)) ∧ Below w.heap.size w w' := by
  have hB0 := below_alloc' w (.cells #[.int .i64 s, .int .i64 p, .int .i64 o] 3)
  have hi : Calls Tryz.prog 121 #[.slice (some ⟨w.heap.size, 0, none⟩) 3 3] (w.alloc (.cells #[.int .i64 s, .int .i64 p, .int .i64 o] 3)) fun e w' => ∃ A c, e = .returned (.agg #[.int .i64 3, .int .i64 0, .string ⟨#[]⟩, .slice A 3 c]) ∧ SlV w' w'.heap.size (.slice A 3 c) [s, p, o] ∧ Below (w.alloc (.cells #[.int .i64 s, .int .i64 p, .int .i64 o] 3)).heap.size (w.alloc (.cells #[.int .i64 s, .int .i64 p, .int .i64 o] 3)) w' :=
    refints_any [s, p, o] _ _ (sl_newI w [s, p, o] #[.int .i64 s, .int .i64 p, .int .i64 o] rfl (by simp) 3 rfl) (by simp)
  have hen : ∀ (A : Option Addr) (c : Nat) (W : World), SlV W W.heap.size (.slice A 3 c) [s, p, o] → Calls Tryz.prog 120 #[.agg #[.int .i64 3, .int .i64 0, .string ⟨#[]⟩, .slice A 3 c]] W fun e w' => ∃ v, e = .returned (.tuple #[v, .int .i64 0]) ∧ ownR W.heap.size w' v (encL [s, p, o]) ∧ Below W.heap.size W w' := fun A c W h => refEncode_list [s, p, o] A c W h hs (by simp)
  have hlen := encL_len hs (by simp)
  have hc : aliasH s p o = hashN (tagged (sb aliasB) (encL [s, p, o])) := rfl
  obtain ⟨L, hL⟩ : ∃ L, encL [s, p, o] = L := ⟨_, rfl⟩
  rw [hL] at hen hlen hc
  have hh := fun v W h1 h2 => refhash_any ⟨#[97, 108, 105, 97, 115]⟩ L v W h1 h2 (by omega) (by decide)
  rw [← hc] at hh
  have ha : aliasN s p o = numC (powC 4 (if aliasH s p o = 0 then 1 else aliasH s p o)) := by
    rw [← rmax _ (by rw [hc]; exact hashN_0 _)]; rfl
  rw [ha]
  obtain ⟨E, hE⟩ : ∃ E, aliasH s p o = E := ⟨_, rfl⟩
  rw [hE] at hh ⊢
  have hpw := fun (n : Int) (W : World) => refpow_any 4 n W
  have hnm := fun (n : Int) (W : World) => refnumber_any n W
  obtain ⟨PW, hPW⟩ : ∃ PW, powC 4 = PW := ⟨_, rfl⟩
  obtain ⟨PE, hPE⟩ : ∃ PE, powE 4 = PE := ⟨_, rfl⟩
  obtain ⟨NM, hNM⟩ : ∃ NM, numC = NM := ⟨_, rfl⟩
  obtain ⟨NE, hNE⟩ : ∃ NE, numE = NE := ⟨_, rfl⟩
  rw [hPW, hPE] at hpw
  rw [hNM, hNE] at hnm
  rw [hPW, hNM]
  have HI := Lib.hid hi
  have HE := Lib.hid hen
  have HH := Lib.hid hh
  have HP := Lib.hid hpw
  have HN := Lib.hid hnm
  have HL := Lib.hid hlen
  clear hc hL hE ha hs hi hen hh hpw hnm hPW hPE hNM hNE hlen
  by_cases h0 : E = 0
  · subst h0
    rw [if_pos rfl]
    go_enter Tryz.func75, Tryz.ntmps75
    go_wp2_with (first
      | (go_at_call 121; (with_reducible refine HI.out.mono ?_); rintro e w1 ⟨A1, k1, rfl, hv1, hb⟩; replace hB0 := hB0.trans (hb.mono hB0.size))
      | (go_at_call 120; (with_reducible refine (HE.out _ _ _ hv1).mono ?_); rintro e w2 ⟨v2, rfl, ho, hb⟩; replace hB0 := hB0.trans (hb.mono hB0.size); obtain ⟨q1, q2⟩ := own_slB ho rfl (by have := HL.out; omega))
      | (go_at_call 122; (with_reducible refine (HH.out _ _ q1 q2).mono ?_); rintro e w3 ⟨rfl, hb⟩; replace hB0 := hB0.trans (hb.mono hB0.size))
      | (go_at_call 123; (with_reducible refine (HP.out _ _).mono ?_); rintro e w4 ⟨rfl, rfl⟩)
      | (go_at_call 124; (with_reducible refine (HN.out _ _).mono ?_); rintro e w5 ⟨rfl, rfl⟩))
    go_ret
    exact ⟨rfl, hB0⟩
  · rw [if_neg h0]
    have z : (E == 0) = false := beq_eq_false_iff_ne.2 h0
    clear h0
    go_enter Tryz.func75, Tryz.ntmps75
    go_wp2_with (first
      | (go_at_call 121; (with_reducible refine HI.out.mono ?_); rintro e w1 ⟨A1, k1, rfl, hv1, hb⟩; replace hB0 := hB0.trans (hb.mono hB0.size))
      | (go_at_call 120; (with_reducible refine (HE.out _ _ _ hv1).mono ?_); rintro e w2 ⟨v2, rfl, ho, hb⟩; replace hB0 := hB0.trans (hb.mono hB0.size); obtain ⟨q1, q2⟩ := own_slB ho rfl (by have := HL.out; omega))
      | (go_at_call 122; (with_reducible refine (HH.out _ _ q1 q2).mono ?_); rintro e w3 ⟨rfl, hb⟩; replace hB0 := hB0.trans (hb.mono hB0.size))
      | (go_at_call 123; (with_reducible refine (HP.out _ _).mono ?_); rintro e w4 ⟨rfl, rfl⟩)
      | (go_at_call 124; (with_reducible refine (HN.out _ _).mono ?_); rintro e w5 ⟨rfl, rfl⟩))
    go_ret
    exact ⟨rfl, hB0⟩
end Go.Proofs.YthckledagggoiaaGreatDoor
