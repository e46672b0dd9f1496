import Derived.Test.YtlbnbginippjfaaSaneP47
import Derived.Test.YtlbnbginippjfaaRecover
import Derived.Test.YtlbnbginippjfaaDeal
import Derived.Test.YtlbnbginippjfaaRest
import Derived.Test.YtlbnbginippjfaaSameb
import Derived.Test.YtlbnbginippjfaaKey2
import Derived.Deep.RegionHeld3
namespace Go.Proofs.Ytlbnbginippjfaa
open Go.RowKit Fk

section
variable (w : World) (v : Value) (B0 : Nat)
theorem key_c1 (hB : B0 ≤ w.heap.size) (h : SlEp w B0 v eL0) : Calls Try.prog 53 #[v, .int .i64 3, .int .i64 4] w fun e w' => e = .returned (.tuple #[.int .i64 0, .bool false, .int .i64 0]) ∧ Below w.heap.size w w' := by
  have := key_any eL0 v 3 4 w B0 hB h
  rwa [key_ex1.1, key_ex1.2.1, key_ex1.2.2] at this
theorem key_c2 (hB : B0 ≤ w.heap.size) (h : SlEp w B0 v eL0) : Calls Try.prog 53 #[v, .int .i64 3, .int .i64 8] w fun e w' => e = .returned (.tuple #[.int .i64 4, .bool true, .int .i64 0]) ∧ Below w.heap.size w w' := by
  have := key_any eL0 v 3 8 w B0 hB h
  rwa [key_ex2.1, key_ex2.2.1, key_ex2.2.2] at this
theorem key_c3 (hB : B0 ≤ w.heap.size) (h : SlEp w B0 v eL0) : Calls Try.prog 53 #[v, .int .i64 3, .int .i64 9] w fun e w' => e = .returned (.tuple #[.int .i64 16, .bool true, .int .i64 0]) ∧ Below w.heap.size w w' := by
  have := key_any eL0 v 3 9 w B0 hB h
  rwa [key_ex3.1, key_ex3.2.1, key_ex3.2.2] at this
theorem key_c4 : Calls Try.prog 53 #[.slice none 0 0, .int .i64 0, .int .i64 0] w fun e w' => e = .returned (.tuple #[.int .i64 0, .bool false, .int .i64 0]) ∧ Below w.heap.size w w' := by
  have := key_any [] (.slice none 0 0) 0 0 w 0 (by omega) ⟨by simp, none, 0, rfl, fun h => absurd h (by simp)⟩
  rwa [key_ex4.1, key_ex4.2.1, key_ex4.2.2] at this
theorem key_c5 (hB : B0 ≤ w.heap.size) (h : SlEp w B0 v eL0) : Calls Try.prog 53 #[v, .int .i64 24, .int .i64 0] w fun e w' => e = .returned (.tuple #[.int .i64 0, .bool false, .int .i64 1]) ∧ Below w.heap.size w w' := by
  have := key_any eL0 v 24 0 w B0 hB h
  rwa [key_ex5.1, key_ex5.2.1, key_ex5.2.2] at this
end
/-- a slice just built -/
theorem new_sl {α : Type} [Inhabited α] {m : Nat} {enc : α → List Value} (w : World) (t : TypeId) (l : List α) (a : Array Value) (h : (l.flatMap enc).toArray = a) (hm : ∀ x, (enc x).length = m) (hl : l.length ≤ 9223372036854775807) (n c : Nat) (hn : n = l.length) :
    SlG m enc (w.alloc (.cells a t)) (w.alloc (.cells a t)).heap.size (.slice (some ⟨w.heap.size, 0, none⟩) n c) l := by
  subst h; subst hn
  exact (Row.new w t (l.flatMap enc)).sl hm hl (by simp)
theorem below_new {w w' : World} (o : Obj) (h : Below (w.alloc o).heap.size (w.alloc o) w') : Below w.heap.size w w' :=
  ((Below.refl _ _).alloc (Nat.le_refl _) _).trans (h.mono (by simp))
def encEp (x : Ep) : List Value := [.int .i64 x.o, .int .i64 x.f, .int .i64 x.k]
theorem _root_.Fk.SlG.ep {w : World} {B0 : Nat} {v : Value} {l : List Ep} (h : SlG 3 encEp w B0 v l) : SlEp w B0 v l := by
  obtain ⟨hl, A, c, rfl, h⟩ := h
  refine ⟨hl, A, c, rfl, fun hp => ?_⟩
  obtain ⟨b, off, rfl, hb, hE⟩ := h hp
  refine ⟨b, off, rfl, hb, fun i hi => ⟨?_, ?_, ?_⟩⟩
  · simpa [encEp] using hE i hi 0 (by omega)
  · simpa [encEp] using hE i hi 1 (by omega)
  · simpa [encEp] using hE i hi 2 (by omega)
theorem SlEp.mono {w : World} {B0 B1 : Nat} {v : Value} {l : List Ep} (h : SlEp w B0 v l) (hB : B0 ≤ B1) : SlEp w B1 v l := by
  obtain ⟨hl, A, c, rfl, h⟩ := h
  refine ⟨hl, A, c, rfl, fun hp => ?_⟩
  obtain ⟨b, off, rfl, hb, hE⟩ := h hp
  exact ⟨b, off, rfl, by omega, hE⟩
theorem SlEp.step {w w' : World} {v : Value} {l : List Ep} (h : SlEp w w.heap.size v l) (hb : Below w.heap.size w w') : SlEp w' w'.heap.size v l := (h.below hb).mono hb.size
theorem _root_.Fk.SlG.step {α : Type} [Inhabited α] {m : Nat} {enc : α → List Value} {w w' : World} {v : Value} {l : List α} (h : SlG m enc w w.heap.size v l) (hb : Below w.heap.size w w') : SlG m enc w' w'.heap.size v l := (h.below hb).mono hb.size
section
variable (w : World)
theorem check_c1 : Calls Try.prog 56 #[.slice (some ⟨w.heap.size, 0, none⟩) 1 1] (w.alloc (.cells #[.int .i64 0, .int .i64 0, .int .i64 1] 76)) fun e w' => e = .returned (.int .i64 470) ∧ Below w.heap.size w w' := by
  have := epcheck_any [⟨0, 0, 1⟩] _ _ _ (Nat.le_refl _) (SlG.ep (new_sl (enc := encEp) (m := 3) w 76 [⟨0, 0, 1⟩] #[.int .i64 0, .int .i64 0, .int .i64 1] rfl (fun _ => rfl) (by simp) 1 1 rfl))
  rw [chk_L2] at this
  exact this.mono fun e w' ⟨he, hb⟩ => ⟨he, below_new _ hb⟩
theorem check_c2 : Calls Try.prog 56 #[.slice (some ⟨w.heap.size, 0, none⟩) 2 2] (w.alloc (.cells #[.int .i64 3, .int .i64 9, .int .i64 16, .int .i64 3, .int .i64 5, .int .i64 4] 76)) fun e w' => e = .returned (.int .i64 470) ∧ Below w.heap.size w w' := by
  have := epcheck_any eL1 _ _ _ (Nat.le_refl _) (SlG.ep (new_sl (enc := encEp) (m := 3) w 76 eL1 #[.int .i64 3, .int .i64 9, .int .i64 16, .int .i64 3, .int .i64 5, .int .i64 4] rfl (fun _ => rfl) (by simp [eL1]) 2 2 rfl))
  rw [chk_L1] at this
  exact this.mono fun e w' ⟨he, hb⟩ => ⟨he, below_new _ hb⟩
theorem check_d1 : Calls Try.prog 56 #[.slice (some ⟨w.heap.size, 0, none⟩) 1 1] (w.alloc (.cells #[.int .i64 0, .int .i64 0, .int .i64 1] 76)).drew fun e w' => e = .returned (.int .i64 470) ∧ Below (w.alloc (.cells #[.int .i64 0, .int .i64 0, .int .i64 1] 76)).drew.heap.size (w.alloc (.cells #[.int .i64 0, .int .i64 0, .int .i64 1] 76)).drew w' := by
  have h := SlG.ep (new_sl (enc := encEp) (m := 3) w 76 [⟨0, 0, 1⟩] #[.int .i64 0, .int .i64 0, .int .i64 1] rfl (fun _ => rfl) (by simp) 1 1 rfl)
  have := epcheck_any [⟨0, 0, 1⟩] _ (w.alloc (.cells #[.int .i64 0, .int .i64 0, .int .i64 1] 76)).drew _ (Nat.le_refl _) (h.step ((Below.refl _ _).drew))
  rwa [chk_L2] at this
theorem check_d2 : Calls Try.prog 56 #[.slice (some ⟨w.heap.size, 0, none⟩) 2 2] (w.alloc (.cells #[.int .i64 3, .int .i64 9, .int .i64 16, .int .i64 3, .int .i64 5, .int .i64 4] 76)) fun e w' => e = .returned (.int .i64 470) ∧ Below (w.alloc (.cells #[.int .i64 3, .int .i64 9, .int .i64 16, .int .i64 3, .int .i64 5, .int .i64 4] 76)).heap.size (w.alloc (.cells #[.int .i64 3, .int .i64 9, .int .i64 16, .int .i64 3, .int .i64 5, .int .i64 4] 76)) w' := by
  have := epcheck_any eL1 _ _ _ (Nat.le_refl _) (SlG.ep (new_sl (enc := encEp) (m := 3) w 76 eL1 #[.int .i64 3, .int .i64 9, .int .i64 16, .int .i64 3, .int .i64 5, .int .i64 4] rfl (fun _ => rfl) (by simp [eL1]) 2 2 rfl))
  rwa [chk_L1] at this
/-- what a drawn region holds: W's blocks are as they were, and the two epochs lie at block g -/
abbrev S47 (g : Nat) (W w' : World) : Prop := Below W.heap.size W w' ∧ w'.cell? ⟨g, 0, none⟩ = some (.int .i64 3) ∧ w'.cell? ⟨g, 1, none⟩ = some (.int .i64 5) ∧ w'.cell? ⟨g, 2, none⟩ = some (.int .i64 4) ∧ w'.cell? ⟨g, 3, none⟩ = some (.int .i64 3) ∧ w'.cell? ⟨g, 4, none⟩ = some (.int .i64 9) ∧ w'.cell? ⟨g, 5, none⟩ = some (.int .i64 16)
theorem S47.step {g : Nat} {W w' w2 : World} (hg : g < W.heap.size) (h : S47 g W w') (hb : Below w'.heap.size w' w2) : S47 g W w2 := by
  obtain ⟨h0, h1, h2, h3, h4, h5, h6⟩ := h
  have hg' : g < w'.heap.size := Nat.lt_of_lt_of_le hg h0.size
  refine ⟨h0.trans (hb.mono h0.size), ?_, ?_, ?_, ?_, ?_, ?_⟩ <;> (refine (hb.cell (p := ⟨g, _, none⟩) hg').trans ?_; assumption)
theorem S47.stepb {g : Nat} {W w' w2 : World} (hg : g < W.heap.size) (hb : Below w'.heap.size w' w2) (h : S47 g W w') : S47 g W w2 := h.step hg hb
theorem S47.alloc {g : Nat} {W w' : World} (hg : g < W.heap.size) (h : S47 g W w') (o : Obj) : S47 g W (w'.alloc o) := h.step hg ((Below.refl _ _).alloc (Nat.le_refl _) o)
theorem S47.allocd {g : Nat} {W w' : World} (hg : g < W.heap.size) (h : S47 g W w'.drew) (o : Obj) : S47 g W (w'.alloc o).drew := S47.alloc hg h o
theorem S47.drew {g : Nat} {W w' : World} (hg : g < W.heap.size) (h : S47 g W w') : S47 g W w'.drew := h.step hg ((Below.refl _ _).drew)
theorem same_c1 (v : Value) (h : SlI w w.heap.size v [64, 16, 1]) : Calls Try.prog 57 #[v, .slice (some ⟨w.heap.size, 0, none⟩) 3 3] (w.alloc (.cells #[.int .i64 64, .int .i64 16, .int .i64 1] 3)) fun e w' => e = .returned (.bool true) ∧ Below w.heap.size w w' := by
  have hb := (Below.refl w.heap.size w).alloc (Nat.le_refl _) (.cells #[.int .i64 64, .int .i64 16, .int .i64 1] 3)
  have := sameints_any [64, 16, 1] v _ _ _ (Nat.le_refl _) (h.step hb) (new_sl (enc := encI) (m := 1) w 3 [64, 16, 1] #[.int .i64 64, .int .i64 16, .int .i64 1] rfl (fun _ => rfl) (by simp) 3 3 rfl)
  exact this.mono fun e w' ⟨he, hb⟩ => ⟨he, below_new _ hb⟩
theorem same_c2 (v : Value) (h : SlI w w.heap.size v [1]) : Calls Try.prog 57 #[v, .slice (some ⟨w.heap.size, 0, none⟩) 1 1] (w.alloc (.cells #[.int .i64 1] 3)) fun e w' => e = .returned (.bool true) ∧ Below w.heap.size w w' := by
  have hb := (Below.refl w.heap.size w).alloc (Nat.le_refl _) (.cells #[.int .i64 1] 3)
  have := sameints_any [1] v _ _ _ (Nat.le_refl _) (h.step hb) (new_sl (enc := encI) (m := 1) w 3 [1] #[.int .i64 1] rfl (fun _ => rfl) (by simp) 1 1 rfl)
  exact this.mono fun e w' ⟨he, hb⟩ => ⟨he, below_new _ hb⟩
theorem same_c3 (v : Value) (h : SlSh w w.heap.size v [⟨1, 10⟩, ⟨2, 13⟩, ⟨3, 16⟩]) : Calls Try.prog 58 #[v, .slice (some ⟨w.heap.size, 0, none⟩) 3 3] (w.alloc (.cells #[.int .i64 1, .int .i64 10, .int .i64 2, .int .i64 13, .int .i64 3, .int .i64 16] 85)) fun e w' => e = .returned (.bool true) ∧ Below w.heap.size w w' := by
  have hb := (Below.refl w.heap.size w).alloc (Nat.le_refl _) (.cells #[.int .i64 1, .int .i64 10, .int .i64 2, .int .i64 13, .int .i64 3, .int .i64 16] 85)
  have := same_any [⟨1, 10⟩, ⟨2, 13⟩, ⟨3, 16⟩] v _ _ _ (Nat.le_refl _) (SlG.step h hb) (new_sl (enc := encSh) (m := 2) w 85 [⟨1, 10⟩, ⟨2, 13⟩, ⟨3, 16⟩] #[.int .i64 1, .int .i64 10, .int .i64 2, .int .i64 13, .int .i64 3, .int .i64 16] rfl (fun _ => rfl) (by simp) 3 3 rfl)
  exact this.mono fun e w' ⟨he, hb⟩ => ⟨he, below_new _ hb⟩
theorem rest_c1 : Calls Try.prog 34 #[.slice (some ⟨w.heap.size, 0, none⟩) 2 2] (w.alloc (.cells #[.int .i64 4, .int .i64 16] 3)) fun e w' => ∃ r, e = .returned (.tuple #[r, .int .i64 0]) ∧ Below w.heap.size w w' ∧ SlI w' w'.heap.size r [64, 16, 1] := by
  have := rest_any [4, 16] _ _ _ (Nat.le_refl _) (new_sl (enc := encI) (m := 1) w 3 [4, 16] #[.int .i64 4, .int .i64 16] rfl (fun _ => rfl) (by simp) 2 2 rfl)
  rw [rest_ex1.1, rest_ex1.2] at this
  exact this.mono fun e w' ⟨r, he, hb, hs⟩ => ⟨r, he, below_new _ hb, hs⟩
theorem rest_c2 : Calls Try.prog 34 #[.slice none 0 0] w fun e w' => ∃ r, e = .returned (.tuple #[r, .int .i64 0]) ∧ Below w.heap.size w w' ∧ SlI w' w'.heap.size r [1] := by
  have := rest_any [] _ w 0 (by omega) (SlG.nil_ _ _)
  rwa [rest_ex2.1, rest_ex2.2] at this
theorem rest_c3 : Calls Try.prog 34 #[.slice (some ⟨w.heap.size, 0, none⟩) 1 1] (w.alloc (.cells #[.int .i64 2] 3)) fun e w' => ∃ r, e = .returned (.tuple #[r, .int .i64 90]) ∧ Below w.heap.size w w' := by
  have := rest_any [2] _ _ _ (Nat.le_refl _) (new_sl (enc := encI) (m := 1) w 3 [2] #[.int .i64 2] rfl (fun _ => rfl) (by simp) 1 1 rfl)
  rw [rest_ex3] at this
  exact this.mono fun e w' ⟨r, he, hb, hs⟩ => ⟨r, he, below_new _ hb⟩
theorem deal_c1 : Calls Try.prog 54 #[.int .i64 7, .slice (some ⟨w.heap.size, 0, none⟩) 1 1, .int .i64 3] (w.alloc (.cells #[.int .i64 3] 3)) fun e w' => ∃ r, e = .returned (.tuple #[r, .int .i64 0]) ∧ Below w.heap.size w w' ∧ SlSh w' w'.heap.size r [⟨1, 10⟩, ⟨2, 13⟩, ⟨3, 16⟩] := by
  have := deal_any 7 3 [3] _ _ _ (Nat.le_refl _) (new_sl (enc := encI) (m := 1) w 3 [3] #[.int .i64 3] rfl (fun _ => rfl) (by simp) 1 1 rfl)
  rw [show (([3] : List Int).length) = 1 from rfl, deal_ex1.1, deal_ex1.2] at this
  exact this.mono fun e w' ⟨r, he, hb, hs⟩ => ⟨r, he, below_new _ hb, hs⟩
theorem deal_c2 : Calls Try.prog 54 #[.int .i64 7, .slice (some ⟨w.heap.size, 0, none⟩) 1 1, .int .i64 1] (w.alloc (.cells #[.int .i64 3] 3)) fun e w' => ∃ r, e = .returned (.tuple #[r, .int .i64 1]) ∧ Below w.heap.size w w' := by
  have := deal_any 7 1 [3] _ _ _ (Nat.le_refl _) (new_sl (enc := encI) (m := 1) w 3 [3] #[.int .i64 3] rfl (fun _ => rfl) (by simp) 1 1 rfl)
  rw [show (([3] : List Int).length) = 1 from rfl, deal_ex2] at this
  exact this.mono fun e w' ⟨r, he, hb, hs⟩ => ⟨r, he, below_new _ hb⟩
theorem deal_c3 : Calls Try.prog 54 #[.int .i64 0, .slice none 0 0, .int .i64 1] w fun e w' => ∃ r, e = .returned (.tuple #[r, .int .i64 110]) ∧ Below w.heap.size w w' := by
  have := deal_any 0 1 [] _ w 0 (by omega) (SlG.nil_ _ _)
  rw [show (([] : List Int).length) = 0 from rfl, deal_ex3] at this
  exact this.mono fun e w' ⟨r, he, hb, hs⟩ => ⟨r, he, hb⟩
theorem rec_c1 : Calls Try.prog 55 #[.slice (some ⟨w.heap.size, 0, none⟩) 2 2] (w.alloc (.cells #[.int .i64 2, .int .i64 13, .int .i64 3, .int .i64 16] 85)) fun e w' => e = .returned (.tuple #[.int .i64 7, .int .i64 0]) ∧ Below w.heap.size w w' := by
  have := recover_any sL0 _ _ _ (Nat.le_refl _) (new_sl (enc := encSh) (m := 2) w 85 sL0 #[.int .i64 2, .int .i64 13, .int .i64 3, .int .i64 16] rfl (fun _ => rfl) (by simp [sL0]) 2 2 rfl)
  rw [rec_ex1.1, rec_ex1.2] at this
  exact this.mono fun e w' ⟨he, hb⟩ => ⟨he, below_new _ hb⟩
theorem rec_c2 : Calls Try.prog 55 #[.slice (some ⟨w.heap.size, 0, none⟩) 2 2] (w.alloc (.cells #[.int .i64 2, .int .i64 13, .int .i64 2, .int .i64 13] 85)) fun e w' => ∃ v, e = .returned (.tuple #[v, .int .i64 471]) ∧ Below w.heap.size w w' := by
  have := recover_any [⟨2, 13⟩, ⟨2, 13⟩] _ _ _ (Nat.le_refl _) (new_sl (enc := encSh) (m := 2) w 85 [⟨2, 13⟩, ⟨2, 13⟩] #[.int .i64 2, .int .i64 13, .int .i64 2, .int .i64 13] rfl (fun _ => rfl) (by simp) 2 2 rfl)
  rw [rec_ex2] at this
  exact this.mono fun e w' ⟨he, hb⟩ => ⟨_, he, below_new _ hb⟩
theorem rec_c3 : Calls Try.prog 55 #[.slice none 0 0] w fun e w' => ∃ v, e = .returned (.tuple #[v, .int .i64 471]) ∧ Below w.heap.size w w' := by
  have := recover_any [] _ w 0 (by omega) (SlG.nil_ _ _)
  rw [recE_nil.1] at this
  exact this.mono fun e w' ⟨he, hb⟩ => ⟨_, he, hb⟩
end
end Go.Proofs.Ytlbnbginippjfaa
