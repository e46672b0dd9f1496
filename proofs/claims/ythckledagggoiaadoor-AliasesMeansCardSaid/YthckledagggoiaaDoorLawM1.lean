import Derived.Test.YthckledagggoiaaDoorAsL2
set_option linter.unusedSimpArgs false
set_option linter.unusedVariables false
namespace Go.Proofs.YthckledagggoiaaDoor
open Go.RowKit Go.MapKept Go.Shelf Fk Sha
/-! AliasesMeans -/
theorem sl_newV (w : World) (l : List Int) (a : Array Value) (h : (l.flatMap encV).toArray = a) (hl : l.length ≤ 9223372036854775807) (n : Nat) (hn : n = l.length) :
    SlV (w.alloc (.cells a 31)) (w.alloc (.cells a 31)).heap.size (.slice (some ⟨w.heap.size, 0, none⟩) n n) l := by
  subst h; subst hn
  exact (Row.new w 31 (l.flatMap encV)).sl (fun _ => rfl) hl (by simp)
set_option maxRecDepth 100000 in
set_option maxHeartbeats 4000000 in
theorem aliasesMeans_walk (s p o : Int) (w : World) (hT : Tab w) (hz : 1 < w.heap.size ∧ 0 < w.heap.size) (_ : (Lit.int .i64 s).wf = true) (_ : (Lit.int .i64 p).wf = true) (_ : (Lit.int .i64 o).wf = true) :
    Calls Tryd.prog 3 #[.int .i64 s, .int .i64 p, .int .i64 o] w fun e w' => e = .returned (.bool true) ∧ Below w.heap.size w w' := by
  have hTT : TabOK w := ⟨hT, hz⟩
  have c1 := sane35_any w hTT
  have c2 := fun (W : World) (hb : Below w.heap.size w W) => alias_any s p o W (hTT.below hb)
  have C1 := Lib.hid c1
  by_cases hc : ckE s o (idP p) = 0
  · obtain ⟨h1, h2, h3⟩ := ckE_0 hc
    unfold idP at h2
    simp only [Bool.and_eq_true, decide_eq_true_eq] at h2
    have hsm : smallI [s, p, o] := small3 ⟨by omega, by omega⟩ ⟨by omega, by omega⟩ ⟨by omega, by omega⟩
    have e1 : aliasA s p o = aliasN s p o := by unfold aliasA; rw [if_pos hc]
    have hbd := aliasN_bd s p o
    have hal : aliasN s p o = numC (powC 4 (if 1 < aliasH s p o then aliasH s p o else 1)) := rfl
    have hc4 : aliasH s p o = hashN (tagged (sb aliasB) (encL [s, p, o])) := rfl
    rw [hc, e1] at c2
    have hen : ∀ (A : Option Addr) (c : Nat) (W : World), SlV W W.heap.size (.slice A 3 c) [s, p, o] → Calls Tryd.prog 9 #[.agg #[.int .i64 3, .int .i64 0, .string ⟨#[]⟩, .slice A 3 c]] W fun e w' => ∃ v, e = .returned (.tuple #[v, .int .i64 0]) ∧ ownB w' v (encL [s, p, o]) ∧ Below W.heap.size W w' := fun (A : Option Addr) (c : Nat) (W : World) (h : SlV W W.heap.size (.slice A 3 c) [s, p, o]) => encode_list [s, p, o] A c W h hsm (by simp) (by simp)
    have hlen := encL_len hsm (by simp)
    obtain ⟨L, hL⟩ : ∃ L, encL [s, p, o] = L := ⟨_, rfl⟩
    rw [hL] at hen hlen hc4
    have hh := fun v W h1 h2 h3 => hash_any ⟨#[97, 108, 105, 97, 115]⟩ L v W h1 h2 (by omega) (by decide) (TabOK.below hTT h3).1 (TabOK.below hTT h3).2
    rw [← hc4] at hh
    have hpw := fun (n : Int) (W : World) => pow_any 4 n W
    have hnm := fun (n : Int) (W : World) => by
      have := number_any (powC 4 n) W
      rw [show numE (powC 4 n) = 0 from by unfold numE; rw [if_pos (vld_powC vld_4 n)]] at this
      exact this
    rw [show powE 4 = 0 from by unfold powE; rw [if_pos vld_4]] at hpw
    obtain ⟨E, hE⟩ : ∃ E, aliasH s p o = E := ⟨_, rfl⟩
    obtain ⟨AA, hAA⟩ : ∃ AA, aliasN s p o = AA := ⟨_, rfl⟩
    obtain ⟨PW, hPW⟩ : ∃ PW, powC 4 = PW := ⟨_, rfl⟩
    obtain ⟨NM, hNM⟩ : ∃ NM, numC = NM := ⟨_, rfl⟩
    rw [hE] at hh hal
    rw [hAA] at c2 hbd hal
    rw [hPW] at hpw hnm hal
    rw [hNM] at hnm hal
    have C2 := Lib.hid c2
    have HE := Lib.hid hen
    have HH := Lib.hid hh
    have HP := Lib.hid hpw
    have HN := Lib.hid hnm
    have g1 : decide (1 ≤ AA) = true := decide_eq_true hbd.1
    have g2 : decide (AA ≤ 1073741789) = true := decide_eq_true hbd.2
    have HL := Lib.hid hlen
    clear c1 c2 hen hh hpw hnm hbd e1 hc h1 h2 h3 hT hz hTT hsm hL hc4 hE hAA hPW hNM hlen
    have HAL := Lib.hid hal
    by_cases hm : 1 < E
    · have hal2 := HAL.out
      rw [if_pos hm] at hal2
      have q : (AA == NM (PW E)) = true := by rw [hal2]; exact beq_self_eq_true _
      have hmx : max 1 E = E := by omega
      clear hal hal2
      go_enter Tryd.func3, Tryd.ntmps3
      go_wp2_with (first
        | (go_at_call 7; (with_reducible refine C1.out.mono ?_); rintro e X ⟨rfl, hB⟩)
        | (go_at_call 8; (with_reducible refine (C2.out _ hB).mono ?_); rintro e X2 ⟨rfl, hb⟩; replace hB := hB.trans (hb.mono hB.size); have hBe := below_alloc' X2 (.cells #[.int .i64 1, .int .i64 s, .string ⟨#[]⟩, .slice none 0 0, .int .i64 1, .int .i64 p, .string ⟨#[]⟩, .slice none 0 0, .int .i64 1, .int .i64 o, .string ⟨#[]⟩, .slice none 0 0] 31); replace hB := hB.trans (hBe.mono hB.size))
        | (go_at_call 9; (with_reducible refine (HE.out _ _ _ (sl_newV X2 [s, p, o] #[.int .i64 1, .int .i64 s, .string ⟨#[]⟩, .slice none 0 0, .int .i64 1, .int .i64 p, .string ⟨#[]⟩, .slice none 0 0, .int .i64 1, .int .i64 o, .string ⟨#[]⟩, .slice none 0 0] rfl (by simp) 3 rfl)).mono ?_); rintro e X3 ⟨v1, rfl, ho, hb⟩; replace hB := hB.trans (hb.mono hB.size); obtain ⟨q1, q2⟩ := own_slB ho rfl (by have := HL.out; omega))
        | (go_at_call 11; (with_reducible refine (HH.out _ _ q1 q2 hB).mono ?_); rintro e X4 ⟨rfl, hb⟩; replace hB := hB.trans (hb.mono hB.size))
        | (go_at_call 10; (with_reducible refine (HP.out _ _).mono ?_); rintro e X5 ⟨rfl, hb⟩; replace hB := hB.trans (hb.mono hB.size))
        | (go_at_call 12; (with_reducible refine (HN.out _ _).mono ?_); rintro e X6 ⟨rfl, rfl⟩))
      go_ret
      exact ⟨rfl, hB⟩
    · have hal2 := HAL.out
      rw [if_neg hm] at hal2
      have q : (AA == NM (PW 1)) = true := by rw [hal2]; exact beq_self_eq_true _
      have hm2 : E ≤ 1 := by omega
      have hmx : max 1 E = 1 := by omega
      clear hal hal2 hm
      go_enter Tryd.func3, Tryd.ntmps3
      go_wp2_with (first
        | (go_at_call 7; (with_reducible refine C1.out.mono ?_); rintro e X ⟨rfl, hB⟩)
        | (go_at_call 8; (with_reducible refine (C2.out _ hB).mono ?_); rintro e X2 ⟨rfl, hb⟩; replace hB := hB.trans (hb.mono hB.size); have hBe := below_alloc' X2 (.cells #[.int .i64 1, .int .i64 s, .string ⟨#[]⟩, .slice none 0 0, .int .i64 1, .int .i64 p, .string ⟨#[]⟩, .slice none 0 0, .int .i64 1, .int .i64 o, .string ⟨#[]⟩, .slice none 0 0] 31); replace hB := hB.trans (hBe.mono hB.size))
        | (go_at_call 9; (with_reducible refine (HE.out _ _ _ (sl_newV X2 [s, p, o] #[.int .i64 1, .int .i64 s, .string ⟨#[]⟩, .slice none 0 0, .int .i64 1, .int .i64 p, .string ⟨#[]⟩, .slice none 0 0, .int .i64 1, .int .i64 o, .string ⟨#[]⟩, .slice none 0 0] rfl (by simp) 3 rfl)).mono ?_); rintro e X3 ⟨v1, rfl, ho, hb⟩; replace hB := hB.trans (hb.mono hB.size); obtain ⟨q1, q2⟩ := own_slB ho rfl (by have := HL.out; omega))
        | (go_at_call 11; (with_reducible refine (HH.out _ _ q1 q2 hB).mono ?_); rintro e X4 ⟨rfl, hb⟩; replace hB := hB.trans (hb.mono hB.size))
        | (go_at_call 10; (with_reducible refine (HP.out _ _).mono ?_); rintro e X5 ⟨rfl, hb⟩; replace hB := hB.trans (hb.mono hB.size))
        | (go_at_call 12; (with_reducible refine (HN.out _ _).mono ?_); rintro e X6 ⟨rfl, rfl⟩))
      go_ret
      exact ⟨rfl, hB⟩
  · have e1 : aliasA s p o = 0 := by unfold aliasA; rw [if_neg hc]
    rw [e1] at c2
    obtain ⟨C, hC⟩ : ∃ C, ckE s o (idP p) = C := ⟨_, rfl⟩
    rw [hC] at c2 hc
    have C2 := Lib.hid c2
    have f1 : (C != 0) = true := bne_iff_ne.2 hc
    clear c1 c2 hc hC hT hz hTT e1
    go_enter Tryd.func3, Tryd.ntmps3
    go_wp2_with (first
      | (go_at_call 7; (with_reducible refine C1.out.mono ?_); rintro e X ⟨rfl, hB⟩)
      | (go_at_call 8; (with_reducible refine (C2.out _ hB).mono ?_); rintro e X2 ⟨rfl, hb2⟩))
    go_ret
    exact ⟨rfl, hB.trans (hb2.mono hB.size)⟩
end Go.Proofs.YthckledagggoiaaDoor
