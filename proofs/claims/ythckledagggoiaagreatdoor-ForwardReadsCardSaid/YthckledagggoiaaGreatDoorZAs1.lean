import Derived.Test.YthckledagggoiaaGreatDoorZPh
import Derived.Deep.LoopGhost
set_option linter.unusedSimpArgs false
set_option linter.unusedVariables false
namespace Go.Proofs.YthckledagggoiaaGreatDoor
open Go.RowKit Fk Sha
/-! aliases: an alias. -/
/-- the digest's tables, and that they lie below what is made later -/
def TabOK (w : World) : Prop := Tab w ∧ 1 < w.heap.size ∧ 0 < w.heap.size
theorem TabOK.below {w w' : World} (h : TabOK w) (hb : Below w.heap.size w w') : TabOK w' := by
  have hs := hb.size
  exact ⟨h.1.keep (g := w.heap.size) h.2 (fun b hl => hb.block b hl), by have := h.2.1; omega, by have := h.2.2; omega⟩
theorem sl_newI (w : World) (l : List Int) (a : Array Value) (h : (l.flatMap encI).toArray = a) (hl : l.length ≤ 9223372036854775807) (n : Nat) (hn : n = l.length) :
    SlI (w.alloc (.cells a 3)) (w.alloc (.cells a 3)).heap.size (.slice (some ⟨w.heap.size, 0, none⟩) n n) l := by
  subst h; subst hn
  exact (Row.new w 3 (l.flatMap encI)).sl (fun _ => rfl) hl (by simp)
theorem encL_len {l : List Int} (h : smallI l) (hl : l.length ≤ 1000) : (encL l).length ≤ 20000 := by
  unfold encL
  have h1 := encHd_length (n := l.length) (by omega)
  have h2 := flat_length h l.length (Nat.le_refl _)
  rw [List.take_length] at h2
  rw [List.length_append]; omega
set_option maxRecDepth 100000 in
set_option maxHeartbeats 4000000 in
theorem list_any (l : List Int) (v : Value) (w : World) (h : SlI w w.heap.size v l) (hs : smallI l) (hp : 1 ≤ l.length) (hl : l.length ≤ 1000) :
    Calls Tryz.prog 107 #[v] w fun e w' => ∃ v', e = .returned v' ∧ ownB w' v' (encL l) ∧ Below w.heap.size w w' := by
  obtain ⟨i0, hi, hz0, hz1, hz2⟩ := info_parts infoV4
  have HS := Lib.hid h
  have HN := Lib.hid hs
  obtain ⟨_, A, c, rfl, _⟩ := h
  clear hs
  have hB0 := below_alloc' w (.cells #[.int .i64 3, .int .i64 0, .string ⟨#[]⟩, .slice none 0 0] 173)
  have r0 := Row.new w 173 [.int .i64 3, .int .i64 0, .string ⟨#[]⟩, .slice none 0 0]
  have hz : w.heap.size + 1 ≤ (w.alloc (.cells #[.int .i64 3, .int .i64 0, .string ⟨#[]⟩, .slice none 0 0] 173)).heap.size := by simp
  go_enter Tryz.func107, Tryz.ntmps107
  go_wp2_with fail
  go_loopg [11] l.length (fun gh iv wr => ∃ (k : Nat) (x : Value), iv = .int .i64 k ∧ k + gh = l.length ∧ Below w.heap.size w wr ∧ w.heap.size + 1 ≤ wr.heap.size ∧ Row wr w.heap.size 173 [.int .i64 3, .int .i64 0, .string ⟨#[]⟩, x] ∧ wr.ownsRow (w.heap.size + 1) 173 4 x k ((l.take k).flatMap encV))
  case atStart => exact ⟨0, _, rfl, by omega, hB0, hz, r0, World.ownsRow_nil _ _ _ _⟩
  case round =>
    clear hB0 r0 hz
    obtain ⟨k, x, rfl, hkg, hBr, hz, hrow, hown⟩ := hrel
    obtain ⟨k0, k1, k2, k3⟩ := st4 hrow
    have y3 := Row.frozen hrow 3
    have hzz := hrow.lt
    by_cases hlt : k < l.length
    · obtain ⟨_, A', c', hv, hE⟩ := HS.out.below hBr
      obtain ⟨b, off, rfl, hbb, hE⟩ := hE (by omega)
      cases hv
      have d1 := hE.int hlt
      have hsn := take_flatV hlt
      obtain ⟨n, hn⟩ : ∃ n, l.getD k default = n := ⟨_, rfl⟩
      rw [hn] at d1 hsn
      have HSN := Lib.hid hsn
      have s1 : (0 : Int) ≤ k := by omega
      have s2 : (k : Int) < l.length := by omega
      clear hn hsn hE
      go_wp2_with (at_builtin; refine wpList_append_lies _ rfl _ _ 171 rfl (w.heap.size + 1) 173 i0 (.agg #[.int .i64 0, .int .i64 0, .string ⟨#[]⟩, .slice none 0 0]) 4 56 Tryz.underlying171 hi hz0 hz1 hz2 rfl (by decide) _ _ _ rfl (hown.alloc _) ⟨wr.heap.size, 0, none⟩ 1 1 [.int .i64 1, .int .i64 n, .string ⟨#[]⟩, .slice none 0 0] rfl rfl (cell_four _ _ _ _ _ _) (by simp [Value.oneCell']) (by decide) (by unfold maxLen; omega) (by omega) (by simp; omega) _ rfl ?_; intro g cap w2 hown2 hgrow hat hlt2; have hown1 := hown; have hrow2 : Row w2 w.heap.size 173 [.int .i64 3, .int .i64 0, .string ⟨#[]⟩, x] := Row.keep (hrow.alloc _) (hgrow.block _ (by simp; omega) (fun e => by have := (hown1.lt _ e.symm).1; omega)); clear k0 k1 k2 k3 y3; obtain ⟨k0, k1, k2, k3⟩ := st4 hrow2; have y3 := Row.frozen hrow2 3; have hzz2 := hrow2.lt)
      go_roundg (gk - 1)
      case measure => omega
      case rel =>
        refine ⟨k + 1, .slice (some ⟨g, 0, none⟩) (k + 1) cap, by first | rfl | go_num, by omega, ?_, ?_, Row.store hrow2 3 _, ?_⟩
        · exact (((hBr.alloc hBr.size _).grown hgrow (by simp; omega) (fun r e => by have := (hown1.lt _ e).1; omega))).setCell (p := ⟨w.heap.size, 3, none⟩) (Nat.le_refl _) _
        · simp [World.setCell]; omega
        · rw [HSN.out]
          exact hown2.kept (row := some w.heap.size) ⟨rfl, rfl, rfl, by simp [World.setCell], fun j _ hn => Below.heap_setCell _ _ _ j (fun e => hn (by rw [e]))⟩ (.inr (fun e => by have := (hown2.lt _ e).1; omega))
    · obtain rfl : k = l.length := by omega
      rw [List.take_length] at hown
      have hV : SlV wr wr.heap.size x l := own_slG hown (fun _ => rfl) rfl (by omega)
      obtain ⟨_, A2, c2, rfl, _⟩ := id hV
      have he := encode_list l A2 c2 wr hV HN.out hp hl
      have HE := Lib.hid he
      clear he hV hown
      go_wp2_with (go_at_call 142; (with_reducible refine HE.out.mono ?_); rintro e w3 ⟨v', rfl, ho, hb3⟩)
      go_ret
      exact ⟨v', rfl, ho, hBr.trans (hb3.mono hBr.size)⟩
abbrev aliasB : ByteArray := ⟨#[97, 108, 105, 97, 115]⟩
def aliasH (s p o : Int) : Int := hashN (tagged (sb aliasB) (encL [s, p, o]))
def aliasN (s p o : Int) : Int := numC (powC 4 (if 1 < aliasH s p o then aliasH s p o else 1))
theorem small3 {a b c : Int} (ha : 0 ≤ a ∧ a < 4611686018427387904) (hb : 0 ≤ b ∧ b < 4611686018427387904) (hc : 0 ≤ c ∧ c < 4611686018427387904) : smallI [a, b, c] := by
  intro i hi
  simp at hi
  rcases (show i = 0 ∨ i = 1 ∨ i = 2 by omega) with rfl | rfl | rfl
  · exact ha
  · exact hb
  · exact hc
set_option maxRecDepth 100000 in
set_option maxHeartbeats 2000000 in
theorem of_any (s p o : Int) (hs : smallI [s, p, o]) (w : World) (hT : TabOK w) :
    Calls Tryz.prog 49 #[.int .i64 s, .int .i64 p, .int .i64 o] w fun e w' => e = .returned (.int .i64 (aliasN s p o)) ∧ Below w.heap.size w w' := by
  have hB0 := below_alloc' w (.cells #[.int .i64 s, .int .i64 p, .int .i64 o] 3)
  have ht := list_any [s, p, o] _ _ (sl_newI w [s, p, o] #[.int .i64 s, .int .i64 p, .int .i64 o] rfl (by simp) 3 rfl) hs (by simp) (by simp)
  have hlen := encL_len hs (by simp)
  have hc : aliasH s p o = hashN (tagged (sb aliasB) (encL [s, p, o])) := rfl
  obtain ⟨L, hL⟩ : ∃ L, encL [s, p, o] = L := ⟨_, rfl⟩
  rw [hL] at ht hlen hc
  have hh := fun v W h1 h2 h3 => hash_any ⟨#[97, 108, 105, 97, 115]⟩ L v W h1 h2 (by omega) (by decide) (TabOK.below hT h3).1 (TabOK.below hT h3).2
  rw [← hc] at hh
  have ha : aliasN s p o = numC (powC 4 (if 1 < aliasH s p o then aliasH s p o else 1)) := rfl
  rw [ha]
  obtain ⟨E, hE⟩ : ∃ E, aliasH s p o = E := ⟨_, rfl⟩
  rw [hE] at hh ⊢
  have hpw := fun (n : Int) (W : World) => pow_any 4 n W
  have hnm := fun (n : Int) (W : World) => number_any n W
  obtain ⟨PW, hPW⟩ : ∃ PW, powC 4 = PW := ⟨_, rfl⟩
  obtain ⟨PE, hPE⟩ : ∃ PE, powE 4 = PE := ⟨_, rfl⟩
  obtain ⟨NM, hNM⟩ : ∃ NM, numC = NM := ⟨_, rfl⟩
  obtain ⟨NE, hNE⟩ : ∃ NE, numE = NE := ⟨_, rfl⟩
  rw [hPW, hPE] at hpw
  rw [hNM, hNE] at hnm
  rw [hPW, hNM]
  have HT := Lib.hid ht
  have HH := Lib.hid hh
  have HP := Lib.hid hpw
  have HN := Lib.hid hnm
  clear hc hL hE ha hs ht hh hpw hnm hPW hPE hNM hNE
  go_enter Tryz.func49, Tryz.ntmps49
  go_wp2_with (first
    | (go_at_call 107; (with_reducible refine HT.out.mono ?_); rintro e w1 ⟨v1, rfl, ho, hb⟩; replace hB0 := hB0.trans (hb.mono hB0.size); obtain ⟨q1, q2⟩ := own_slB ho rfl (by omega))
    | (go_at_call 106; (with_reducible refine (HH.out _ _ q1 q2 hB0).mono ?_); rintro e w2 ⟨rfl, hb2⟩)
    | (go_at_call 105; (with_reducible refine (HP.out _ _).mono ?_); rintro e w3 ⟨rfl, hb3⟩)
    | (go_at_call 71; (with_reducible refine (HN.out _ _).mono ?_); rintro e w4 ⟨rfl, rfl⟩))
  · go_ret
    refine ⟨?_, hB0.trans ((hb2.trans (hb3.mono hb2.size)).mono hB0.size)⟩
    first | rfl | (rw [show max 1 E = E from by omega]; rfl) | (rw [show max 1 E = 1 from by omega]; rfl)
  · go_ret
    refine ⟨?_, hB0.trans ((hb2.trans (hb3.mono hb2.size)).mono hB0.size)⟩
    first | rfl | (rw [show max 1 E = E from by omega]; rfl) | (rw [show max 1 E = 1 from by omega]; rfl)
/-! the error of a secret and of numbers -/
def secK (s : Int) : Bool := decide (1 ≤ s) && decide (s < 1073741789)
def offB (o : Int) : Bool := decide (0 ≤ o) && decide (o < 24)
def ckE (s o : Int) (ok : Bool) : Int := if secK s then (if ok && offB o then 0 else 1) else 110
set_option maxRecDepth 100000 in
set_option maxHeartbeats 2000000 in
theorem acheck_any (s o : Int) (ok : Bool) (w : World) :
    Calls Tryz.prog 48 #[.int .i64 s, .int .i64 o, .bool ok] w fun e w' => e = .returned (.int .i64 (ckE s o ok)) ∧ w' = w := by
  by_cases h1 : s < 1
  · have e : ckE s o ok = 110 := by unfold ckE secK; rw [decide_eq_false (show ¬ 1 ≤ s by omega)]; rfl
    rw [e]
    have f1 : decide (s < 1) = true := decide_eq_true h1
    clear e
    go_enter Tryz.func48, Tryz.ntmps48
    go_wp2
    go_ret
    exact ⟨rfl, rfl⟩
  have f1 : decide (s < 1) = false := decide_eq_false h1
  by_cases h2 : 1073741789 ≤ s
  · have e : ckE s o ok = 110 := by unfold ckE secK; rw [decide_eq_false (show ¬ s < 1073741789 by omega), Bool.and_false]; rfl
    rw [e]
    have f2 : decide (1073741789 ≤ s) = true := decide_eq_true h2
    clear e
    go_enter Tryz.func48, Tryz.ntmps48
    go_wp2
    go_ret
    exact ⟨rfl, rfl⟩
  have f2 : decide (1073741789 ≤ s) = false := decide_eq_false h2
  have e0 : ckE s o ok = if ok && offB o then 0 else 1 := by
    unfold ckE secK
    rw [decide_eq_true (show 1 ≤ s by omega), decide_eq_true (show s < 1073741789 by omega)]
    rfl
  rw [e0]
  clear e0 h1 h2
  cases ok with
  | false =>
    rw [Bool.false_and]
    go_enter Tryz.func48, Tryz.ntmps48
    go_wp2
    go_ret
    exact ⟨rfl, rfl⟩
  | true =>
    rw [Bool.true_and]
    by_cases h3 : o < 0
    · have e : offB o = false := by unfold offB; rw [decide_eq_false (show ¬ 0 ≤ o by omega)]; rfl
      rw [e]
      have f3 : decide (o < 0) = true := decide_eq_true h3
      clear e
      go_enter Tryz.func48, Tryz.ntmps48
      go_wp2
      go_ret
      exact ⟨rfl, rfl⟩
    have f3 : decide (o < 0) = false := decide_eq_false h3
    by_cases h4 : 24 ≤ o
    · have e : offB o = false := by unfold offB; rw [decide_eq_false (show ¬ o < 24 by omega), Bool.and_false]
      rw [e]
      have f4 : decide (24 ≤ o) = true := decide_eq_true h4
      clear e
      go_enter Tryz.func48, Tryz.ntmps48
      go_wp2
      go_ret
      exact ⟨rfl, rfl⟩
    have f4 : decide (24 ≤ o) = false := decide_eq_false h4
    have e : offB o = true := by unfold offB; rw [decide_eq_true (show 0 ≤ o by omega), decide_eq_true (show o < 24 by omega)]; rfl
    rw [e]
    clear e h3 h4
    go_enter Tryz.func48, Tryz.ntmps48
    go_wp2
    go_ret
    exact ⟨rfl, rfl⟩
end Go.Proofs.YthckledagggoiaaGreatDoor
