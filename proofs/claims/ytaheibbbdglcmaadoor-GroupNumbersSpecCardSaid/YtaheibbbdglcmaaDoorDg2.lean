import Derived.Test.YtaheibbbdglcmaaDoorDg1
import Derived.IntWalk
namespace Go.Proofs.YtaheibbbdglcmaaDoor
open Go.RowKit Fk Sha
/-! Four bytes are a word; a word is four bytes. -/
def bv (c : B) : Value := .int .u8 (bn c)
def encB (c : B) : List Value := [bv c]
abbrev SlB (w : World) (B0 : Nat) (v : Value) (l : List B) : Prop := SlG 1 encB w B0 v l
theorem wd_snoc (l : List B) (c : B) : wd (l ++ [c]) = wd l <<< 8 ||| c.setWidth 32 := by unfold wd; rw [List.foldl_append]; rfl
theorem take_snocB {l : List B} {k : Nat} (h : k < l.length) : l.take (k + 1) = l.take k ++ [l.getD k default] := by
  rw [List.take_succ_eq_append_getElem h, List.getD_eq_getElem?_getD, List.getElem?_eq_getElem h]; rfl
theorem wd_step {l : List B} {k : Nat} (h : k < l.length) : bits .or .u32 (un (wd (l.take k)) * (256 : Int) % 4294967296) (bn (l.getD k default)) = un (wd (l.take (k + 1))) := by
  rw [take_snocB h, wd_snoc]
  have e := shl_n (wd (l.take k)) 8
  rw [show ((2 : Int) ^ 8) = 256 by decide] at e
  rw [e, ← byte_n, or_n]
set_option maxHeartbeats 1000000 in
theorem word_any (l : List B) (b off len cap : Nat) (w : World) (hl : l.length = 4) (hlen : 4 ≤ cap) (hcap : cap ≤ 9223372036854775807) (h : ∀ i, i < 4 → w.cell? ⟨b, off + i, none⟩ = some (bv (l.getD i default))) :
    Calls Tryd.prog 84 #[.slice (some ⟨b, off, none⟩) len cap] w fun e w' => e = .returned (u (wd l)) ∧ w = w' := by
  have HC := Lib.hid h
  clear h
  unfold u
  go_enter Tryd.func84, Tryd.ntmps84
  go_wp2_with fail
  go_loopg [2, 8] 4 (fun g n i wr => w = wr ∧ ∃ k : Nat, i = .int .i64 k ∧ k + g = 4 ∧ n = .int .u32 (un (wd (l.take k))))
  case atStart => exact ⟨rfl, 0, rfl, by omega, rfl⟩
  case round =>
    obtain ⟨rfl, k, rfl, hk, rfl⟩ := hrel
    by_cases hlt : k < 4
    · have d := HC.out k hlt
      have hs := wd_step (show k < l.length by omega)
      obtain ⟨x, hx⟩ : ∃ x, l.getD k default = x := ⟨_, rfl⟩
      rw [hx] at d hs
      obtain ⟨hx0, hx1⟩ := bn_bd x
      unfold bv at d
      clear hx
      generalize bn x = c at *
      generalize un (wd (l.take k)) = n at *
      have HS := Lib.hid hs
      clear hs
      go_wp2_with fail
      go_roundg (gk - 1)
      case measure => omega
      case rel => exact ⟨rfl, k + 1, by go_num, by omega, by rw [← HS.out]⟩
    · obtain rfl : k = 4 := by omega
      have hs : l.take 4 = l := List.take_of_length_le (by omega)
      rw [hs]
      go_wp2_with fail
      go_ret
      exact ⟨rfl, rfl⟩

/-! ### put -/
theorem grownBy_trans {a b c : World} {row : Option Nat} (h : a.grownBy b row) (k : b.grownBy c row) : a.grownBy c row :=
  ⟨k.os.trans h.os, k.tape.trans h.tape, k.output.trans h.output, Nat.le_trans h.size k.size, fun i hi hne => (k.block i (Nat.lt_of_lt_of_le hi h.size) hne).trans (h.block i hi hne)⟩
theorem grownBy_set (w : World) (g i : Nat) (v : Value) : w.grownBy (w.setCell ⟨g, i, none⟩ v) (some g) :=
  ⟨rfl, rfl, rfl, by simp [World.setCell], fun k hk hne => Below.heap_setCell _ _ _ _ (fun e => hne (by rw [e]))⟩
/-- the last k of n bytes are written over the cells from off on -/
def putTo (n off x k : Nat) (vs : List Value) : List Value := vs.take (off + (n - k)) ++ (((be n x).drop (n - k)).map bv ++ vs.drop (off + n))
theorem putTo_zero (n off x : Nat) (vs : List Value) : putTo n off x 0 vs = vs := by
  unfold putTo
  rw [List.drop_of_length_le (by rw [be_length]; omega)]
  simp
theorem be_getD {n x i : Nat} (h : i < n) : (be n x)[i]? = some (BitVec.ofNat 8 (x / 2 ^ (8 * (n - 1 - i)))) := by
  unfold be; rw [List.getElem?_map, List.getElem?_range h]; rfl
theorem putTo_length {n off x k : Nat} {vs : List Value} (h : off + n ≤ vs.length) : (putTo n off x k vs).length = vs.length := by unfold putTo; simp [be_length]; omega
theorem putTo_get {n off x k : Nat} {vs : List Value} (h : off + n ≤ vs.length) (hk : k ≤ n) (i : Nat) :
    (putTo n off x k vs)[i]? = if off + (n - k) ≤ i ∧ i < off + n then some (bv (BitVec.ofNat 8 (x / 2 ^ (8 * (n - 1 - (i - off)))))) else vs[i]? := by
  have hl1 : (vs.take (off + (n - k))).length = off + (n - k) := by rw [List.length_take]; omega
  have hl2 : (((be n x).drop (n - k)).map bv).length = k := by rw [List.length_map, List.length_drop, be_length]; omega
  unfold putTo
  by_cases h1 : i < off + (n - k)
  · rw [List.getElem?_append_left (by rw [hl1]; exact h1), List.getElem?_take_of_lt h1, if_neg (by omega)]
  · rw [List.getElem?_append_right (by rw [hl1]; omega), hl1]
    by_cases h2 : i < off + n
    · rw [List.getElem?_append_left (by rw [hl2]; omega), List.getElem?_map, List.getElem?_drop, if_pos (by omega), be_getD (by omega)]
      show some _ = some _
      congr 5
      omega
    · rw [List.getElem?_append_right (by rw [hl2]; omega), hl2, List.getElem?_drop, if_neg (by omega)]
      congr 1
      omega
theorem putTo_succ {n off x k : Nat} {vs : List Value} (h : off + n ≤ vs.length) (hk : k < n) :
    (putTo n off x k vs).set (off + (n - 1 - k)) (.int .u8 (((x / 2 ^ (8 * k)) % 256 : Nat) : Int)) = putTo n off x (k + 1) vs := by
  apply List.ext_getElem?
  intro i
  rw [List.getElem?_set, putTo_get h (by omega), putTo_get h (by omega), putTo_length h]
  by_cases hi : off + (n - 1 - k) = i
  · rw [if_pos hi, if_pos (by omega), if_pos (by omega)]
    unfold bv bn
    rw [BitVec.toNat_ofNat, show n - 1 - (i - off) = k by omega]
  · rw [if_neg hi]
    by_cases h1 : off + (n - k) ≤ i ∧ i < off + n
    · rw [if_pos h1, if_pos (by omega)]
    · rw [if_neg h1, if_neg (by omega)]
set_option maxHeartbeats 1000000 in
theorem put_any (n off cap x g : Nat) (t : TypeId) (vs : List Value) (w : World) (hR : Row w g t vs) (h : off + n ≤ vs.length) (hx : x < 18446744073709551616) (hn : n ≤ 8) :
    Calls Tryd.prog 69 #[.slice (some ⟨g, off, none⟩) n cap, .int .u64 (x : Int)] w fun e w' => e = .returned (.tuple #[]) ∧ Row w' g t (putTo n off x n vs) ∧ w.grownBy w' (some g) := by
  go_enter Tryd.func69, Tryd.ntmps69
  go_wp2_with fail
  go_loopg [7] n (fun gk i wr => w.grownBy wr (some g) ∧ ∃ k : Nat, i = .int .i64 k ∧ k + gk = n ∧ Row wr g t (putTo n off x k vs))
  case atStart => exact ⟨World.grownBy.refl _ _, 0, rfl, by omega, by rw [putTo_zero]; exact hR⟩
  case round =>
    obtain ⟨hg, k, rfl, hk, hRk⟩ := hrel
    by_cases hlt : k < n
    · have hf := Row.frozen hRk (off + (n - 1 - k))
      obtain ⟨v0, hv0⟩ : ∃ v0, (putTo n off x k vs)[off + (n - 1 - k)]? = some v0 := ⟨_, List.getElem?_eq_getElem (by rw [putTo_length h]; omega)⟩
      have hs := (Row.cell hRk (off + (n - 1 - k))).trans hv0
      have hp := putTo_succ (x := x) h hlt
      rw [Int.natCast_emod, Int.natCast_ediv, Int.natCast_pow] at hp
      have hx0 : (0 : Int) ≤ x := Int.natCast_nonneg _
      have hx1 : (x : Int) < 18446744073709551616 := by omega
      have hR2 := Row.store hRk (off + (n - 1 - k)) (.int .u8 ((x : Int) / 2 ^ (8 * k) % 256))
      have e256 : ((256 : Nat) : Int) = 256 := rfl
      have e2 : ((2 : Nat) : Int) = 2 := rfl
      rw [e256, e2] at hp
      rw [hp] at hR2
      have hg2 := grownBy_trans hg (grownBy_set wr g (off + (n - 1 - k)) (.int .u8 ((x : Int) / 2 ^ (8 * k) % 256)))
      have HR := Lib.hid hR2
      have HG := Lib.hid hg2
      clear hp hR2 hg2 e256 e2 hv0 hR hRk hg
      generalize hX : (x : Int) = X at *
      clear hX
      go_wp2_with fail
      go_roundg (gk - 1)
      case measure => omega
      case rel => exact ⟨HG.out, k + 1, by go_num, by omega, HR.out⟩
    · obtain rfl : k = n := by omega
      go_wp2_with fail
      go_end0
      exact ⟨rfl, hRk, hg⟩
end Go.Proofs.YtaheibbbdglcmaaDoor
