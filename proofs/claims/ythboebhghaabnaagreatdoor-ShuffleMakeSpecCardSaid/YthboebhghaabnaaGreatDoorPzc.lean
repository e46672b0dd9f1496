import Derived.MapKept
import Derived.Lib.AppendStr
import Derived.Lib.AppendZeros
import Derived.StillTailTactics
import Derived.Deep.Cut
import Derived.IntWalk
import Init
import Derived.Test.YthboebhghaabnaaGreatDoorPzb
set_option linter.unusedSimpArgs false
set_option linter.unusedVariables false
namespace Fk
open Go Sha
/-- an integer or a text, as a value of the encoding -/
inductive Vt where
  | int (n : Int)
  | text (s : ByteArray)
instance : Inhabited Vt := ⟨.int 0⟩
def encVt : Vt → List Value
  | .int n => [.int .i64 1, .int .i64 n, .string ⟨#[]⟩, .slice none 0 0]
  | .text s => [.int .i64 2, .int .i64 0, .string s, .slice none 0 0]
def Vt.val : Vt → Value
  | .int n => .agg #[.int .i64 1, .int .i64 n, .string ⟨#[]⟩, .slice none 0 0]
  | .text s => .agg #[.int .i64 2, .int .i64 0, .string s, .slice none 0 0]
def Vt.ok : Vt → Prop
  | .int n => -9223372036854775808 ≤ n ∧ n ≤ 9223372036854775807
  | .text s => 1 ≤ s.size ∧ s.size ≤ 1000
theorem encVt_length (t : Vt) : (encVt t).length = 4 := by cases t <;> rfl
end Fk
namespace Go.Proofs.YthboebhghaabnaaGreatDoor
open Go.RowKit Fk Sha
abbrev SlT (w : World) (B0 : Nat) (v : Value) (l : List Vt) : Prop := SlG 4 encVt w B0 v l
def bytesVt : Vt → List B
  | .int n => 1#8 :: numeral (zz n)
  | .text s => 2#8 :: (numeral s.size ++ s.data.toList.map fun c => BitVec.ofNat 8 c.toNat)
def encT (l : List Vt) : List B := (3#8 :: numeral l.length) ++ l.flatMap bytesVt
theorem not_empty {s : ByteArray} (h : 1 ≤ s.size) : (s == ⟨#[]⟩) = false := by
  cases hb : (s == ⟨#[]⟩) with
  | false => rfl
  | true =>
    rw [(Go.MapKept.bytes_beq _ _).1 hb] at h
    simp [ByteArray.size] at h
set_option maxRecDepth 100000 in
set_option maxHeartbeats 2000000 in
theorem formed_vt (t : Vt) (ht : t.ok) (w : World) :
    Calls Tryz.prog 87 #[t.val] w fun e w' => e = .returned (.tuple #[.int .i64 0, .bool true]) ∧ Below w.heap.size w w' := by
  cases t with
  | int n => exact formed_int n w
  | text s =>
    have hs := not_empty ht.1
    clear ht
    unfold Vt.val
    go_enter Tryz.func87, Tryz.ntmps87
    go_wp2_with fail
    all_goals
      go_ret2
      exact ⟨rfl, ((Below.refl _ _).alloc (Nat.le_refl _) _).alloc (by simp) _⟩
theorem SlT.get {w : World} {B0 : Nat} {v : Value} {l : List Vt} (h : SlT w B0 v l) {k : Nat} (hk : k < l.length) : ∃ b o c, v = .slice (some ⟨b, o, none⟩) l.length c ∧ b < B0 ∧
    w.cell? ⟨b, o + k * 4, none⟩ = some ((encVt (l.getD k default)).getD 0 undef) ∧ w.cell? ⟨b, o + k * 4 + 1, none⟩ = some ((encVt (l.getD k default)).getD 1 undef) ∧ w.cell? ⟨b, o + k * 4 + 2, none⟩ = some ((encVt (l.getD k default)).getD 2 undef) ∧ w.cell? ⟨b, o + k * 4 + 3, none⟩ = some ((encVt (l.getD k default)).getD 3 undef) := by
  obtain ⟨_, A, c, hv, hE⟩ := h
  obtain ⟨b, o, rfl, hb, hE⟩ := hE (by omega)
  exact ⟨b, o, c, hv, hb, hE k hk 0 (by omega), hE k hk 1 (by omega), hE k hk 2 (by omega), hE k hk 3 (by omega)⟩
def okT (l : List Vt) : Prop := ∀ i, i < l.length → (l.getD i default).ok
set_option maxRecDepth 100000 in
set_option maxHeartbeats 2000000 in
theorem formedT_list (l : List Vt) (A : Option Addr) (c : Nat) (w : World) (h : SlT w w.heap.size (.slice A l.length c) l) (hok : okT l) (hp : 1 ≤ l.length) :
    Calls Tryz.prog 87 #[listV A l.length c] w fun e w' => e = .returned (.tuple #[.int .i64 1, .bool true]) ∧ Below w.heap.size w w' := by
  have HS := Lib.hid h
  have HK := Lib.hid hok
  have hl := h.1
  clear h hok
  have hz : ((l.length : Int) == 0) = false := beq_eq_false_iff_ne.2 (by omega)
  go_enter Tryz.func87, Tryz.ntmps87
  go_wp2_with fail
  go_loopg [2, 57] l.length (fun g dv iv wr => dv = .int .i64 0 ∧ Below w.heap.size w wr ∧ ∃ k : Nat, iv = .int .i64 k ∧ k + g = l.length)
  case atStart => exact ⟨rfl, (Below.refl _ _).alloc (Nat.le_refl _) _ |>.alloc (by simp) _, 0, rfl, by omega⟩
  case round =>
    obtain ⟨rfl, hBr, k, rfl, hkg⟩ := hrel
    have hzr := hBr.size
    by_cases hlt : k < l.length
    · obtain ⟨b, o, c', hv, hb, d0, d1, d2, d3⟩ := SlT.get (HS.out.below hBr) hlt
      cases hv
      have s1 : (0 : Int) ≤ k := by omega
      have s2 : (k : Int) < l.length := by omega
      have hbz : b < wr.heap.size := by omega
      have hkk := HK.out k hlt
      obtain ⟨t, ht⟩ : ∃ t, l.getD k default = t := ⟨_, rfl⟩
      rw [ht] at d0 d1 d2 d3 hkk
      clear ht
      cases t with
      | int n =>
        replace d0 : wr.cell? ⟨b, o + k * 4, none⟩ = some (.int .i64 1) := d0
        replace d1 : wr.cell? ⟨b, o + k * 4 + 1, none⟩ = some (.int .i64 n) := d1
        replace d2 : wr.cell? ⟨b, o + k * 4 + 2, none⟩ = some (.string ⟨#[]⟩) := d2
        replace d3 : wr.cell? ⟨b, o + k * 4 + 3, none⟩ = some (.slice none 0 0) := d3
        clear hkk
        go_wp2_with (go_at_call 87; (with_reducible refine (formed_int _ _).mono ?_); rintro e wn ⟨rfl, hn⟩)
        go_roundg (gk - 1)
        case measure => omega
        case rel => exact ⟨by first | rfl | go_num, ((hBr.alloc hzr _).trans (hn.mono (by simp; omega))), k + 1, by first | rfl | go_num, by omega⟩
      | text s =>
        replace d0 : wr.cell? ⟨b, o + k * 4, none⟩ = some (.int .i64 2) := d0
        replace d1 : wr.cell? ⟨b, o + k * 4 + 1, none⟩ = some (.int .i64 0) := d1
        replace d2 : wr.cell? ⟨b, o + k * 4 + 2, none⟩ = some (.string s) := d2
        replace d3 : wr.cell? ⟨b, o + k * 4 + 3, none⟩ = some (.slice none 0 0) := d3
        have hft := fun w => formed_vt (.text s) hkk w
        unfold Vt.val at hft
        have HFT := Lib.hid hft
        clear hkk hft
        go_wp2_with (go_at_call 87; (with_reducible refine (HFT.out _).mono ?_); rintro e wn ⟨rfl, hn⟩)
        go_roundg (gk - 1)
        case measure => omega
        case rel => exact ⟨by first | rfl | go_num, ((hBr.alloc hzr _).trans (hn.mono (by simp; omega))), k + 1, by first | rfl | go_num, by omega⟩
    · obtain rfl : k = l.length := by omega
      go_wp2_with fail
      go_ret2
      exact ⟨rfl, hBr⟩
set_option maxRecDepth 100000 in
set_option maxHeartbeats 2000000 in
theorem ccheckT_list (l : List Vt) (A : Option Addr) (c : Nat) (w : World) (h : SlT w w.heap.size (.slice A l.length c) l) (hok : okT l) (hp : 1 ≤ l.length) :
    Calls Tryz.prog 74 #[listV A l.length c] w fun e w' => e = .returned (.int .i64 0) ∧ Below w.heap.size w w' := by
  have HS := Lib.hid h
  go_enter Tryz.func74, Tryz.ntmps74
  have hB := below_alloc' w (.cells #[.int .i64 3, .int .i64 0, .string ⟨#[]⟩, .slice A l.length c] 101)
  have hf := fun W (h : Below w.heap.size w W) => formedT_list l A c W ((HS.out.below h).mono h.size) hok hp
  have HF := Lib.hid hf
  clear hf h hok
  go_wp2_with (go_at_call 87; (with_reducible refine (HF.out _ hB).mono ?_); rintro e wn ⟨rfl, hn⟩)
  go_ret
  exact ⟨rfl, hB.trans (hn.mono (by simp))⟩
end Go.Proofs.YthboebhghaabnaaGreatDoor

set_option linter.unusedSimpArgs false
set_option linter.unusedVariables false
namespace Go.Proofs.YthboebhghaabnaaGreatDoor
open Go.RowKit Fk Sha
set_option maxRecDepth 100000 in
set_option maxHeartbeats 2000000 in
theorem ccheck_list (l : List Int) (A : Option Addr) (c : Nat) (w : World) (h : SlV w w.heap.size (.slice A l.length c) l) (hp : 1 ≤ l.length) :
    Calls Tryz.prog 74 #[listV A l.length c] w fun e w' => e = .returned (.int .i64 0) ∧ Below w.heap.size w w' := by
  have HS := Lib.hid h
  clear h
  go_enter Tryz.func74, Tryz.ntmps74
  have hB := below_alloc' w (.cells #[.int .i64 3, .int .i64 0, .string ⟨#[]⟩, .slice A l.length c] 101)
  have hf := fun W (h : Below w.heap.size w W) => formed_list l A c W ((HS.out.below h).mono h.size) hp
  have HF := Lib.hid hf
  clear hf
  go_wp2_with (go_at_call 87; (with_reducible refine (HF.out _ hB).mono ?_); rintro e wn ⟨rfl, hn⟩)
  go_ret
  exact ⟨rfl, hB.trans (hn.mono (by simp))⟩
theorem grown_below' {W W' : World} (h : Below W.heap.size W W') (row : Option Nat) : W.grownBy W' row := ⟨h.os, h.tape, h.output, h.size, fun k hk _ => h.block k hk⟩
set_option maxRecDepth 100000 in
set_option maxHeartbeats 2000000 in
theorem write_int (l : List B) (v : Value) (n : Nat) (hn : n < 4611686018427387904) (w : World) (h : ownB w v l) (hl : l.length ≤ 1000000000) :
    Calls Tryz.prog 88 #[v, intV (n : Int)] w fun e w' => ∃ v', e = .returned v' ∧ ownB w' v' (l ++ 1#8 :: numeral (2 * n)) ∧ Grew w w' v v' := by
  obtain ⟨i0, hi, hz0, hz1, hz2⟩ := info_parts infoB4
  have hg0 := Grew.alloc w v (.cells #[.int .i64 1, .int .i64 (n : Int), .string ⟨#[]⟩, .slice none 0 0] 101)
  have hown := h.alloc (.cells #[.int .i64 1, .int .i64 (n : Int), .string ⟨#[]⟩, .slice none 0 0] 101)
  have hc : (w.alloc (.cells #[.int .i64 1, .int .i64 (n : Int), .string ⟨#[]⟩, .slice none 0 0] 101)).cell? ⟨w.heap.size, 1, none⟩ = some (.int .i64 (n : Int)) := by simp
  have hz : w.heap.size < (w.alloc (.cells #[.int .i64 1, .int .i64 (n : Int), .string ⟨#[]⟩, .slice none 0 0] 101)).heap.size := by simp
  have hne : v.ownBlock ≠ some w.heap.size := fun e => by have := (h.lt _ e).2; omega
  have hu := fun w => unsigned_any n hn w
  obtain ⟨m, hm⟩ : ∃ m, 2 * n = m := ⟨_, rfl⟩
  rw [hm] at hu ⊢
  have hm2 : m < 9223372036854775808 := by omega
  have HU := Lib.hid hu
  clear hu hm
  go_enter Tryz.func88, Tryz.ntmps88
  go_wp2_with fail
  generalize w.alloc (.cells #[.int .i64 1, .int .i64 (n : Int), .string ⟨#[]⟩, .slice none 0 0] 101) = W at *
  refine wp_region_ord 6 [(1, 0), (1, 3), (1, 4), (2, 1), (2, 2), (2, 5)] (fun w' => w'.cell? ⟨w.heap.size, 1, none⟩ = some (.int .i64 (n : Int))) (by kernel_rfl) (by kernel_rfl) (fun _ _ d _ _ h => by cases d <;> exact h) hc ?_
  replace hg0 : Grew w W.drew v v := hg0.drew
  replace hown : ownB W.drew v l := hown.kept (grown_below' (Below.refl _ _).drew none) (Classical.em _)
  replace hc : W.drew.cell? ⟨w.heap.size, 1, none⟩ = some (.int .i64 (n : Int)) := hc
  replace hz : w.heap.size < W.drew.heap.size := hz
  generalize W.drew = W1 at *
  iterate 3
    refine wpOrd_take (v := ?_) rfl (by rfl) (fun w hSw => ?_) ?_
    rotate_left 1
    · go_simp
      with_reducible rfl
    simp only [Act.put, List.setIfInBounds_toArray, List.set_cons_zero, List.set_cons_succ]
  refine wpOrd_step rfl (fun K hK => ⟨by rfl, ?_⟩)
  go_simp
  have hc1 : (W1.alloc (.cells #[.int .u8 1] 5)).cell? ⟨w.heap.size, 1, none⟩ = some (.int .i64 (n : Int)) := (World.cell?_alloc_past _ _ _ hz).trans hc
  refine hK _ _ hc1 ?_
  clear hK K
  try simp only [Act.put, List.setIfInBounds_toArray, List.set_cons_zero, List.set_cons_succ]
  refine wpOrd_step rfl (fun K hK => ⟨by rfl, ?_⟩)
  refine wp_append_lies _ _ _ 102 rfl 0 5 i0 (.int .u8 0) 1 1 Tryz.underlying102 hi hz0 hz1 hz2 rfl (by decide) _ _ _ rfl (hown.alloc _) ⟨W1.heap.size, 0, none⟩ 1 1 [.int .u8 1] rfl rfl (cell_one_newB _ _ _) (by simp [Value.oneCell']) (by decide) (by unfold maxLen; omega) (by omega) (Nat.zero_le _) _ rfl ?_
  intro g cap w2 hown2 hgrow hat hlt
  replace hgrow : (W1.alloc (.cells #[.int .u8 1] 5)).grownBy w2 v.ownBlock := hgrow
  replace hat : v.ownBlock = some g ∨ g = (W1.alloc (.cells #[.int .u8 1] 5)).heap.size := hat
  have hg1 : Grew w w2 v (.slice (some ⟨g, 0, none⟩) (l.length + 1) cap) := hg0.trans ((Grew.alloc _ _ _).trans (Grew.lies hgrow hat))
  have hc2 : w2.cell? ⟨w.heap.size, 1, none⟩ = some (.int .i64 (n : Int)) := (hgrow.cell_far _ (by simp; omega) (fun e => hne e.symm)).trans hc1
  refine hK _ _ hc2 ?_
  clear hK K
  try simp only [Act.put, List.setIfInBounds_toArray, List.set_cons_zero, List.set_cons_succ]
  refine wpOrd_step rfl (fun K hK => ⟨by rfl, ?_⟩)
  go_simp
  go_at_call 90
  refine (HU.out _).mono ?_
  rintro e w3 ⟨rfl, rfl⟩
  refine hK _ _ hc2 ?_
  clear hK K
  try simp only [Act.put, List.setIfInBounds_toArray, List.set_cons_zero, List.set_cons_succ]
  refine wpOrd_nil ?_
  simp only [List.drop_succ_cons, List.drop_zero]
  have hown3 : ownB w3 (.slice (some ⟨g, 0, none⟩) (l.length + 1) cap) (l ++ [1#8]) := ownB_snoc hown2 rfl
  go_wp2_with (go_at_call 89; (with_reducible refine (numeral_any _ _ m hm2 _ hown3 (by simp; omega)).mono ?_); rintro e w4 ⟨v', rfl, ho, hg⟩)
  go_ret
  refine ⟨v', rfl, ?_, hg1.trans hg⟩
  rw [List.append_assoc] at ho
  exact ho
end Go.Proofs.YthboebhghaabnaaGreatDoor

set_option linter.unusedSimpArgs false
set_option linter.unusedVariables false
namespace Go.Proofs.YthboebhghaabnaaGreatDoor
open Go.RowKit Fk Sha Go.Lib
set_option maxRecDepth 100000 in
/-- a string appended: where the new slice lies -/
theorem run_append_str_lies {w : World} {ty : TypeId} {g n cap : Nat} {l : List B} (h : ownB w (.slice (some ⟨g, 0, none⟩) n cap) l) (hn : n = l.length) (s : ByteArray) (hb : n + s.size ≤ 140737488355328) :
    ∃ g' cap' w', (Builtin.append_ #[102, 9] ty #[.slice (some ⟨g, 0, none⟩) n cap, .string s]).run Tryz.prog w = .ok (.slice (some ⟨g', 0, none⟩) (n + s.size) cap') w' ∧
      ownB w' (.slice (some ⟨g', 0, none⟩) (n + s.size) cap') (l ++ s.data.toList.map fun c => BitVec.ofNat 8 c.toNat) ∧ w.grownBy w' (some g) ∧ (some g = some g' ∨ g' = w.heap.size) := by
  obtain ⟨i0, hi, hz0, hz1, hz2⟩ := info_parts infoB4
  subst hn
  have hu := Tryz.underlying9
  have ht := Tryz.underlying102
  obtain ⟨v', w', hr, h2, h3, _⟩ := run_append_own_string (P := Tryz.prog) w 0 102 9 ty 5 i0 ht hu hi hz0 hz1 hz2 _ l.length (l.map bv) h s (by unfold maxLen; omega) hb (Nat.zero_le _)
  have hs : l.map bv ++ strCells s = (l ++ s.data.toList.map fun c => BitVec.ofNat 8 c.toNat).map bv := by
    rw [List.map_append, List.map_map]
    congr 1
    unfold strCells
    refine List.map_congr_left fun c _ => ?_
    have hc := c.toNat_lt
    show Value.int .u8 (c.toNat : Int) = bv (BitVec.ofNat 8 c.toNat)
    unfold bv
    rw [ofNat_bn, Nat.mod_eq_of_lt (by omega)]
  have hlen : (l ++ s.data.toList.map fun c => BitVec.ofNat 8 c.toNat).length = l.length + s.size := by
    rw [List.length_append, List.length_map, Array.length_toList]; rfl
  rw [hs] at h2
  rcases id h.2 with ⟨e, _⟩ | ⟨g0, cap0, cur, e, hbg, hg, hnc, hcm, hcs, htake⟩
  · cases e
  · injection e with e1 _ e3
    injection e1 with e1
    injection e1 with e1 _ _
    subst e1 e3
    by_cases hroom : l.length + s.size ≤ cap
    · have hr2 := run_append_room_string (P := Tryz.prog) w 102 9 ty 5 i0 ht hu hi hz1 g l.length cap cur hg s hroom (by omega)
      rw [hr2] at hr
      injection hr with e1 e2
      subst e1 e2
      exact ⟨g, cap, _, hr2, by unfold ownB; rw [hlen]; exact h2, h3, .inl rfl⟩
    · have holds : ∀ j u, (l.map bv)[j]? = some u → w.cell? ((⟨g, 0, none⟩ : Addr).add j) = some u := h.cells (g := g) rfl
      have hr2 := run_append_grow_string (P := Tryz.prog) w 102 9 ty 5 i0 (.int .u8 0) ht hu hi hz0 ⟨g, 0, none⟩ l.length cap (l.map bv) (by rw [hz1]; simp) holds s (by omega) (by omega) (by rw [hz2]; exact growslice_fits (by omega) (by omega))
      rw [hr2] at hr
      injection hr with e1 e2
      subst e1 e2
      exact ⟨w.heap.size, _, _, hr2, by unfold ownB; rw [hlen]; exact h2, h3, .inr rfl⟩
set_option maxRecDepth 100000 in
set_option maxHeartbeats 2000000 in
theorem write_text (l : List B) (v : Value) (s : ByteArray) (hs : s.size ≤ 1000) (w : World) (h : ownB w v l) (hl : l.length ≤ 1000000000) :
    Calls Tryz.prog 91 #[v, .agg #[.int .i64 2, .int .i64 0, .string s, .slice none 0 0]] w fun e w' => ∃ v', e = .returned v' ∧ ownB w' v' (l ++ bytesVt (.text s)) ∧ Grew w w' v v' := by
  obtain ⟨i0, hi, hz0, hz1, hz2⟩ := info_parts infoB4
  have hg0 := Grew.alloc w v (.cells #[.int .i64 2, .int .i64 0, .string s, .slice none 0 0] 101)
  have hown := h.alloc (.cells #[.int .i64 2, .int .i64 0, .string s, .slice none 0 0] 101)
  have hc : (w.alloc (.cells #[.int .i64 2, .int .i64 0, .string s, .slice none 0 0] 101)).cell? ⟨w.heap.size, 2, none⟩ = some (.string s) := by simp
  have hz : w.heap.size < (w.alloc (.cells #[.int .i64 2, .int .i64 0, .string s, .slice none 0 0] 101)).heap.size := by simp
  have hne : v.ownBlock ≠ some w.heap.size := fun e => by have := (h.lt _ e).2; omega
  have hbt : bytesVt (.text s) = 2#8 :: (numeral s.size ++ s.data.toList.map fun c => BitVec.ofNat 8 c.toNat) := rfl
  rw [hbt]
  clear hbt
  have HS := Lib.hid hs
  go_enter Tryz.func91, Tryz.ntmps91
  go_wp2_with fail
  generalize w.alloc (.cells #[.int .i64 2, .int .i64 0, .string s, .slice none 0 0] 101) = W at *
  refine wp_region_ordT 10 [(1, 0), (1, 3), (1, 4), (1, 5), (1, 6), (1, 8), (1, 9), (2, 1), (2, 2), (2, 7)] (fun w' => w'.cell? ⟨w.heap.size, 2, none⟩ = some (.string s)) (by kernel_rfl) (by kernel_rfl) (fun _ _ d _ _ h => by cases d <;> exact h) hc ?_
  replace hg0 : Grew w W.drew v v := hg0.drew
  replace hown : ownB W.drew v l := hown.kept (grown_below' (Below.refl _ _).drew none) (Classical.em _)
  replace hc : W.drew.cell? ⟨w.heap.size, 2, none⟩ = some (.string s) := hc
  replace hz : w.heap.size < W.drew.heap.size := hz
  generalize W.drew = W1 at *
  iterate 4
    refine wpOrd_take (v := ?_) rfl (by rfl) (fun w hSw => ?_) ?_
    rotate_left 1
    · go_simp
      with_reducible rfl
    simp only [Act.put, List.setIfInBounds_toArray, List.set_cons_zero, List.set_cons_succ]
  refine wpOrd_take (v := .int .u64 (s.size : Int)) rfl (by rfl) (fun w hSw => ?_) ?_
  · go_simp
    rw [IntKind.wrap_u64]; omega
  simp only [Act.put, List.setIfInBounds_toArray, List.set_cons_zero, List.set_cons_succ]
  iterate 2
    refine wpOrd_take (v := ?_) rfl (by rfl) (fun w hSw => ?_) ?_
    rotate_left 1
    · go_simp
      with_reducible rfl
    simp only [Act.put, List.setIfInBounds_toArray, List.set_cons_zero, List.set_cons_succ]
  refine wpOrd_step rfl (fun K hK => ⟨by rfl, ?_⟩)
  go_simp
  have hc1 : (W1.alloc (.cells #[.int .u8 2] 5)).cell? ⟨w.heap.size, 2, none⟩ = some (.string s) := (World.cell?_alloc_past _ _ _ hz).trans hc
  refine hK _ _ hc1 ?_
  clear hK K
  try simp only [Act.put, List.setIfInBounds_toArray, List.set_cons_zero, List.set_cons_succ]
  refine wpOrd_step rfl (fun K hK => ⟨by rfl, ?_⟩)
  refine wp_append_lies _ _ _ 102 rfl 0 5 i0 (.int .u8 0) 1 1 Tryz.underlying102 hi hz0 hz1 hz2 rfl (by decide) _ _ _ rfl (hown.alloc _) ⟨W1.heap.size, 0, none⟩ 1 1 [.int .u8 2] rfl rfl (cell_one_newB _ _ _) (by simp [Value.oneCell']) (by decide) (by unfold maxLen; omega) (by omega) (Nat.zero_le _) _ rfl ?_
  intro g cap w2 hown2 hgrow hat hlt
  replace hgrow : (W1.alloc (.cells #[.int .u8 2] 5)).grownBy w2 v.ownBlock := hgrow
  replace hat : v.ownBlock = some g ∨ g = (W1.alloc (.cells #[.int .u8 2] 5)).heap.size := hat
  have hg1 : Grew w w2 v (.slice (some ⟨g, 0, none⟩) (l.length + 1) cap) := hg0.trans ((Grew.alloc _ _ _).trans (Grew.lies hgrow hat))
  have hc2 : w2.cell? ⟨w.heap.size, 2, none⟩ = some (.string s) := (hgrow.cell_far _ (by simp; omega) (fun e => hne e.symm)).trans hc1
  refine hK _ _ hc2 ?_
  clear hK K
  try simp only [Act.put, List.setIfInBounds_toArray, List.set_cons_zero, List.set_cons_succ]
  have hown3 : ownB w2 (.slice (some ⟨g, 0, none⟩) (l.length + 1) cap) (l ++ [2#8]) := ownB_snoc hown2 rfl
  have hnm := numeralW_any (l ++ [2#8]) _ s.size (by omega) w2 hown3 (by simp; omega)
  refine wpOrd_step rfl (fun K hK => ⟨by rfl, ?_⟩)
  go_simp
  go_at_call 89
  refine hnm.mono ?_
  rintro e w3 ⟨v3, rfl, ho3, hg3⟩
  have hg4 := hg1.trans hg3
  have hgz : g ≠ w.heap.size := fun e => by
    rcases hat with e2 | e2
    · rw [e] at e2; exact hne e2
    · rw [World.size_alloc] at e2; omega
  have hc3 : w3.cell? ⟨w.heap.size, 2, none⟩ = some (.string s) := hg3.cell hc2 (by have := hgrow.size; rw [World.size_alloc] at this; simp only []; omega) (fun e => by
    injection e with e
    exact hgz e)
  refine hK _ _ hc3 ?_
  clear hK K
  try simp only [Act.put, List.setIfInBounds_toArray, List.set_cons_zero, List.set_cons_succ]
  refine wpOrd_nil ?_
  simp only [List.drop_succ_cons, List.drop_zero]
  have hlen : (numeral s.size).length ≤ 10 := numeral_length 9 s.size (by omega)
  rcases id ho3.2 with ⟨e0, h0⟩ | ⟨g3, cap3, cur3, e0, _⟩
  · rw [List.length_append, List.length_append] at h0; simp at h0
  subst e0
  obtain ⟨g5, cap5, w5, hr5, ho5, hgr5, hat5⟩ := run_append_str_lies (ty := 102) ho3 rfl s (by simp; omega)
  have hg5 : Grew w w5 v (.slice (some ⟨g5, 0, none⟩) ((l ++ [2#8] ++ numeral s.size).length + s.size) cap5) := hg4.trans (Grew.lies (g := g5) hgr5 hat5)
  generalize (l ++ [2#8] ++ numeral s.size).length = N at *
  have HO5 := Lib.hid ho5
  have HG5 := Lib.hid hg5
  have HR5 := Lib.hid hr5
  clear ho5 hg5 ho3 hg3 hg4 hgr5 hat5 hown3 hown2 hg1 hg0 hlen hr5
  go_wp2_with (at_builtin; refine Lib.wpList_append_run _ rfl _ _ _ _ rfl _ _ rfl rfl _ _ HR5.out ?_)
  go_ret
  refine ⟨_, rfl, ?_, HG5.out⟩
  simpa [List.append_assoc] using HO5.out
end Go.Proofs.YthboebhghaabnaaGreatDoor

set_option linter.unusedSimpArgs false
set_option linter.unusedVariables false
namespace Sha
def encI1 (n : Int) : List B := 1#8 :: numeral (2 * n.toNat)
def encHd (n : Nat) : List B := 3#8 :: numeral n
/-- the encoding of a list of integers -/
def encL (l : List Int) : List B := encHd l.length ++ l.flatMap encI1
def smallI (l : List Int) : Prop := ∀ i, i < l.length → 0 ≤ l.getD i default ∧ l.getD i default < 4611686018427387904
theorem encI1_length {n : Int} (h : n < 4611686018427387904) : (encI1 n).length ≤ 10 := by
  unfold encI1
  have := numeral_length 8 (2 * n.toNat) (by omega)
  simp; omega
theorem encHd_length {n : Nat} (h : n < 4611686018427387904) : (encHd n).length ≤ 10 := by
  unfold encHd
  have := numeral_length 8 n (by omega)
  simp; omega
theorem take_snocJ {l : List Int} {k : Nat} (h : k < l.length) : (l.take (k + 1)).flatMap encI1 = (l.take k).flatMap encI1 ++ encI1 (l.getD k default) := by
  rw [List.take_add_one, List.flatMap_append, List.getElem?_eq_getElem h, List.getD_eq_getElem?_getD, List.getElem?_eq_getElem h]
  simp
theorem flat_length {l : List Int} (h : smallI l) : ∀ k, k ≤ l.length → ((l.take k).flatMap encI1).length ≤ 10 * k
  | 0, _ => by simp
  | k + 1, hk => by
    rw [take_snocJ (by omega), List.length_append]
    have h1 := flat_length h k (by omega)
    have h2 := encI1_length (h k (by omega)).2
    omega
end Sha
namespace Go.Proofs.YthboebhghaabnaaGreatDoor
open Go.RowKit Fk Sha
theorem lt_of_lt_of_le' {a b c : Nat} (h : a < b) (k : b ≤ c) : a < c := Nat.lt_of_lt_of_le h k
theorem Wtr.below {w w' : World} {b : Nat} (h : Wtr w b) (hg : Below w.heap.size w w') : Wtr w' b := ⟨h.tab.below hg h.tab.lt, h.var.below hg h.var.lt⟩
theorem Grew.nil_below {w w' : World} {v' : Value} (h : Grew w w' (.slice none 0 0) v') : Below w.heap.size w w' := h.below (Nat.le_refl _) (fun k e => by cases e)
set_option maxRecDepth 100000 in
set_option maxHeartbeats 4000000 in
theorem write_list (l : List Int) (A : Option Addr) (c b : Nat) (w : World) (h : SlV w w.heap.size (.slice A l.length c) l) (hs : smallI l) (hl : l.length ≤ 1000) (hW : Wtr w b) :
    Calls Tryz.prog 92 #[.slice none 0 0, listV A l.length c, .pointer (some ⟨b + 1, 0, none⟩)] w fun e w' => ∃ v', e = .returned v' ∧ ownB w' v' (encL l) ∧ Below w.heap.size w w' := by
  obtain ⟨i0, hi, hz0, hz1, hz2⟩ := info_parts infoB4
  have HS := Lib.hid h
  have HN := Lib.hid hs
  have HW := Lib.hid hW
  have hwz := hW.var.lt
  have HE := Lib.hid (flat_length hs)
  clear h hs hW
  have hB0 := below_alloc' w (.cells #[.int .i64 3, .int .i64 0, .string ⟨#[]⟩, .slice A l.length c] 101)
  have hc : (w.alloc (.cells #[.int .i64 3, .int .i64 0, .string ⟨#[]⟩, .slice A l.length c] 101)).cell? ⟨w.heap.size, 3, none⟩ = some (.slice A l.length c) := by simp
  have hz : w.heap.size < (w.alloc (.cells #[.int .i64 3, .int .i64 0, .string ⟨#[]⟩, .slice A l.length c] 101)).heap.size := by simp
  go_enter Tryz.func92, Tryz.ntmps92
  go_wp2_with fail
  generalize w.alloc (.cells #[.int .i64 3, .int .i64 0, .string ⟨#[]⟩, .slice A l.length c] 101) = W at *
  refine wp_region_ord 7 [(1, 0), (1, 3), (1, 4), (1, 5), (1, 6), (2, 1), (2, 2)] (fun w' => w'.cell? ⟨w.heap.size, 3, none⟩ = some (.slice A l.length c)) (by kernel_rfl) (by kernel_rfl) (fun _ _ d _ _ h => by cases d <;> exact h) hc ?_
  replace hB0 : Below w.heap.size w W.drew := hB0.drew
  replace hc : W.drew.cell? ⟨w.heap.size, 3, none⟩ = some (.slice A l.length c) := hc
  replace hz : w.heap.size < W.drew.heap.size := hz
  generalize W.drew = W1 at *
  iterate 4
    refine wpOrd_take (v := ?_) rfl (by rfl) (fun w hSw => ?_) ?_
    rotate_left 1
    · go_simp
      with_reducible rfl
    simp only [Act.put, List.setIfInBounds_toArray, List.set_cons_zero, List.set_cons_succ]
  refine wpOrd_take (v := .int .u64 (l.length : Int)) rfl (by rfl) (fun w hSw => ?_) ?_
  · go_simp
    rw [IntKind.wrap_u64]; omega
  simp only [Act.put, List.setIfInBounds_toArray, List.set_cons_zero, List.set_cons_succ]
  refine wpOrd_step rfl (fun K hK => ⟨by rfl, ?_⟩)
  go_simp
  have hc1 : (W1.alloc (.cells #[.int .u8 3] 5)).cell? ⟨w.heap.size, 3, none⟩ = some (.slice A l.length c) := (World.cell?_alloc_past _ _ _ hz).trans hc
  refine hK _ _ hc1 ?_
  clear hK K
  try simp only [Act.put, List.setIfInBounds_toArray, List.set_cons_zero, List.set_cons_succ]
  refine wpOrd_step rfl (fun K hK => ⟨by rfl, ?_⟩)
  refine wp_append_lies _ _ _ 102 rfl 0 5 i0 (.int .u8 0) 1 1 Tryz.underlying102 hi hz0 hz1 hz2 rfl (by decide) _ _ _ rfl (World.ownsRow_nil _ _ _ _) ⟨W1.heap.size, 0, none⟩ 1 1 [.int .u8 3] rfl rfl (cell_one_newB _ _ _) (by simp [Value.oneCell']) (by decide) (by unfold maxLen; omega) (by omega) (Nat.zero_le _) _ rfl ?_
  intro g cap w2 hown2 hgrow hat hlt
  replace hgrow : (W1.alloc (.cells #[.int .u8 3] 5)).grownBy w2 (Value.slice none 0 0).ownBlock := hgrow
  replace hat : (Value.slice none 0 0).ownBlock = some g ∨ g = (W1.alloc (.cells #[.int .u8 3] 5)).heap.size := hat
  have hg1 : Grew W1 w2 (.slice none 0 0) (.slice (some ⟨g, 0, none⟩) (0 + 1) cap) := (Grew.alloc _ _ _).trans (Grew.lies hgrow hat)
  have hc2 : w2.cell? ⟨w.heap.size, 3, none⟩ = some (.slice A l.length c) := hg1.cell hc hz (fun e => by cases e)
  refine hK _ _ hc2 ?_
  clear hK K
  try simp only [Act.put, List.setIfInBounds_toArray, List.set_cons_zero, List.set_cons_succ]
  refine wpOrd_nil ?_
  simp only [List.drop_succ_cons, List.drop_zero]
  have hown3 : ownB w2 (.slice (some ⟨g, 0, none⟩) (0 + 1) cap) [3#8] := hown2
  go_wp2_with (go_at_call 89; (with_reducible refine (numeral_any _ _ l.length (by omega) _ hown3 (by simp)).mono ?_); rintro e w4 ⟨v', rfl, ho, hg⟩; have hc4 : w4.cell? ⟨w.heap.size, 3, none⟩ = some (.slice A l.length c) := (hg1.trans hg).cell hc hz (fun e => by cases e))
  have hb4 : Below w.heap.size w w4 := hB0.trans (((hg1.trans hg).nil_below).mono hB0.size)
  have ho4 : ownB w4 v' (encHd l.length ++ (l.take 0).flatMap encI1) := by simpa [encHd] using ho
  have hlo4 : ∀ k, v'.ownBlock = some k → w.heap.size ≤ k := by
    intro k hk
    have h1 := hB0.size
    rcases (hg1.trans hg).o with e | ⟨i, e, hi⟩
    · rw [e] at hk; cases hk
    · rw [e] at hk; injection hk with hk; omega
  clear hc hz hc1 hown2 hlt hgrow hat hg1 hc2 hown3 ho hg hB0
  have hz4 := hb4.size
  go_loopg [0, 19] l.length (fun gh bv' iv wr => ∃ k : Nat, iv = .int .i64 k ∧ k + gh = l.length ∧ Below w.heap.size w wr ∧ Hid (∀ k, bv'.ownBlock = some k → w.heap.size ≤ k) ∧ ownB wr bv' (encHd l.length ++ (l.take k).flatMap encI1))
  case atStart => exact ⟨0, rfl, by omega, hb4, hlo4, ho4⟩
  case round =>
    clear ho4
    obtain ⟨k, rfl, hkg, hBr, HLO, hown⟩ := hrel
    have hzr := hBr.size
    by_cases hlt : k < l.length
    · obtain ⟨xb, o, c', hv, hb, d0, d1, d2, d3⟩ := SlV.get (HS.out.below hBr) hlt
      cases hv
      have hnn := HN.out k hlt
      have hsn := take_snocJ hlt
      have hlen := HE.out k (by omega)
      have hhd := encHd_length (n := l.length) (by omega)
      have hfl : (encHd l.length ++ (l.take k).flatMap encI1).length ≤ 1000000000 := by rw [List.length_append]; omega
      obtain ⟨x, hx⟩ : ∃ x, l.getD k default = x := ⟨_, rfl⟩
      rw [hx] at d1 hnn hsn
      obtain ⟨m, rfl⟩ : ∃ m : Nat, x = (m : Int) := ⟨x.toNat, by omega⟩
      have s1 : (0 : Int) ≤ k := by omega
      have s2 : (k : Int) < l.length := by omega
      have hbz : xb < wr.heap.size := by omega
      have hw := HW.out.below hBr
      clear hx hlen hhd
      obtain ⟨acc, hacc⟩ : ∃ acc, encHd l.length ++ (l.take k).flatMap encI1 = acc := ⟨_, rfl⟩
      have HSN := Lib.hid hsn
      have HAC := Lib.hid hacc
      rw [hacc] at hown hfl
      clear hsn hacc
      go_upto_region 5 with fail
      have r7 := Row.new wr 101 [.int .i64 1, .int .i64 (m : Int), .string ⟨#[]⟩, .slice none 0 0]
      have hwA : Wtr (wr.alloc (.cells #[.int .i64 1, .int .i64 (m : Int), .string ⟨#[]⟩, .slice none 0 0] 101)) b := hw.below (below_alloc' _ _)
      have hownA := hown.alloc (.cells #[.int .i64 1, .int .i64 (m : Int), .string ⟨#[]⟩, .slice none 0 0] 101)
      have hBA := hBr.alloc hzr (.cells #[.int .i64 1, .int .i64 (m : Int), .string ⟨#[]⟩, .slice none 0 0] 101)
      obtain ⟨W5, hW5⟩ : ∃ W5, wr.alloc (.cells #[.int .i64 1, .int .i64 (m : Int), .string ⟨#[]⟩, .slice none 0 0] 101) = W5 := ⟨_, rfl⟩
      replace r7 : Row W5 wr.heap.size 101 [.int .i64 1, .int .i64 (m : Int), .string ⟨#[]⟩, .slice none 0 0] := hW5 ▸ r7
      rw [hW5] at hwA hownA hBA ⊢
      clear hW5 hw d0 d1 d2 d3
      obtain ⟨e0, e1, e2, e3⟩ := st4 hwA.tab
      have ev := st1c hwA.var
      obtain ⟨k0, k1, k2, k3⟩ := st4 r7
      have t0 := hwA.tab.lt
      have t1 := hwA.var.lt
      have t2 := r7.lt
      replace hownA : ownB W5.drew u0 acc := World.ownsRow.kept hownA (grown_below' (Below.refl _ _).drew none) (Classical.em _)
      have hlow : ∀ k, u0.ownBlock = some k → w.heap.size ≤ k := HLO.out
      have HWI := Lib.hid (write_int acc u0 m (by omega) _ hownA hfl)
      have HBA := Lib.hid hBA.drew
      clear hownA hBA hwA r7
      go_still_tail 9, (by kernel_rfl)
      repeat still_step
      try refine wpStill_nil ?_
      change wpList _ _ _ _ _ W5.drew
      go_wp2_with (go_at_call 88; (with_reducible refine HWI.out.mono ?_); rintro e w5 ⟨v5, rfl, ho5, hg5⟩)
      go_roundg (gk - 1)
      case measure => omega
      case rel =>
        refine ⟨k + 1, by first | rfl | go_num, by omega, ?_, ?_, ?_⟩
        · exact HBA.out.trans (hg5.below HBA.out.size hlow)
        · intro j hj
          rcases hg5.o with e | ⟨i, e, hi⟩
          · rw [e] at hj; exact hlow j hj
          · rw [e] at hj; injection hj with hj; have := HBA.out.size; omega
        · rw [HSN.out, ← List.append_assoc, HAC.out]
          exact ho5
    · obtain rfl : k = l.length := by omega
      rw [List.take_length] at hown
      go_wp2_with fail
      go_ret
      exact ⟨_, rfl, hown, hBr⟩
end Go.Proofs.YthboebhghaabnaaGreatDoor

set_option linter.unusedSimpArgs false
set_option linter.unusedVariables false
namespace Go.Proofs.YthboebhghaabnaaGreatDoor
open Go.RowKit Fk Sha
set_option maxRecDepth 100000 in
set_option maxHeartbeats 4000000 in
theorem encode_list (l : List Int) (A : Option Addr) (c : Nat) (w : World) (h : SlV w w.heap.size (.slice A l.length c) l) (hs : smallI l) (hp : 1 ≤ l.length) (hl : l.length ≤ 1000) :
    Calls Tryz.prog 54 #[listV A l.length c] w fun e w' => ∃ v, e = .returned (.tuple #[v, .int .i64 0]) ∧ ownB w' v (encL l) ∧ Below w.heap.size w w' := by
  have HS := Lib.hid h
  have HN := Lib.hid hs
  clear h hs
  have hB0 := below_alloc' w (.cells #[.int .i64 3, .int .i64 0, .string ⟨#[]⟩, .slice A l.length c] 101)
  have r0 := Row.new w 101 [.int .i64 3, .int .i64 0, .string ⟨#[]⟩, .slice A l.length c]
  have hz : w.heap.size < (w.alloc (.cells #[.int .i64 3, .int .i64 0, .string ⟨#[]⟩, .slice A l.length c] 101)).heap.size := by simp
  go_enter Tryz.func54, Tryz.ntmps54
  obtain ⟨W, hW⟩ : ∃ W, w.alloc (.cells #[.int .i64 3, .int .i64 0, .string ⟨#[]⟩, .slice A l.length c] 101) = W := ⟨_, rfl⟩
  replace r0 : Row W w.heap.size 101 [.int .i64 3, .int .i64 0, .string ⟨#[]⟩, .slice A l.length c] := hW ▸ r0
  rw [hW] at hB0 hz
  have hck := ccheck_list l A c W ((HS.out.below hB0).mono hB0.size) hp
  have HCK := Lib.hid hck
  clear hck
  go_upto_region 1 with fail
  clear hW
  obtain ⟨k0, k1, k2, k3⟩ := st4 r0
  go_upto_region 4 with (go_at_call 74; (with_reducible refine HCK.out.mono ?_); rintro e w1 ⟨rfl, hb⟩; replace r0 := r0.below hb hz; replace hB0 := hB0.trans (hb.mono hB0.size); replace hz := lt_of_lt_of_le' hz hb.size; clear k0 k1 k2 k3; obtain ⟨k0, k1, k2, k3⟩ := st4 r0)
  refine wp_region_ord 8 [(1, 1), (1, 2), (1, 7), (2, 0), (2, 3), (2, 4), (2, 5), (2, 6)] (fun w' => w'.cell? ⟨w.heap.size, 0, none⟩ = some (.int .i64 3) ∧ w'.cell? ⟨w.heap.size, 1, none⟩ = some (.int .i64 0) ∧ w'.cell? ⟨w.heap.size, 2, none⟩ = some (.string ⟨#[]⟩) ∧ w'.cell? ⟨w.heap.size, 3, none⟩ = some (.slice A l.length c)) (by kernel_rfl) (by kernel_rfl) (fun _ _ d _ _ h => by cases d <;> exact h) ⟨k0, k1, k2, k3⟩ ?_
  replace hB0 : Below w.heap.size w w1.drew := hB0.drew
  replace r0 : Row w1.drew w.heap.size 101 [.int .i64 3, .int .i64 0, .string ⟨#[]⟩, .slice A l.length c] := r0
  replace hz : w.heap.size < w1.drew.heap.size := hz
  clear k0 k1 k2 k3
  generalize w1.drew = W1 at *
  iterate 3
    refine wpOrd_take (v := ?_) rfl (by rfl) (fun w hSw => ?_) ?_
    rotate_left 1
    · obtain ⟨k0, k1, k2, k3⟩ := hSw
      go_simp
      with_reducible rfl
    simp only [Act.put, List.setIfInBounds_toArray, List.set_cons_zero, List.set_cons_succ]
  refine wpOrd_step rfl (fun K hK => ⟨by rfl, ?_⟩)
  go_simp
  go_at_call 75
  refine (newWriter_any _).mono ?_
  rintro e w2 ⟨rfl, hwt, hb⟩
  replace r0 := r0.below hb hz
  replace hB0 := hB0.trans (hb.mono hB0.size)
  have k := st4 r0
  refine hK _ _ k ?_
  clear hK K
  obtain ⟨e0, e1, e2, e3⟩ := st4 hwt.tab
  iterate 4
    refine wpOrd_step rfl (fun K hK => ⟨by rfl, ?_⟩)
    go_simp
    refine hK _ _ k ?_
    clear hK K
  refine wpOrd_nil ?_
  simp only [List.drop_succ_cons, List.drop_zero]
  have hS2 := (HS.out.below hB0).mono hB0.size
  have hwl := write_list l A c W1.heap.size w2 hS2 HN.out hl hwt
  have HWL := Lib.hid hwl
  clear hwl hS2 k e0 e1 e2 e3
  go_wp2_with (go_at_call 92; (with_reducible refine HWL.out.mono ?_); rintro e w3 ⟨v', rfl, ho, hb3⟩)
  go_ret2
  exact ⟨v', rfl, ho, hB0.trans (hb3.mono hB0.size)⟩
end Go.Proofs.YthboebhghaabnaaGreatDoor

set_option linter.unusedSimpArgs false
set_option linter.unusedVariables false
namespace Go.Proofs.YthboebhghaabnaaGreatDoor
open Go.RowKit Fk Sha
/-! Lists of integers and texts, encoded. -/
theorem bytesVt_length {t : Vt} (h : t.ok) : (bytesVt t).length ≤ 1020 := by
  cases t with
  | int n =>
    have := numeral_length 9 (zz n) (by have := zz_lt h.1 h.2; omega)
    show (1#8 :: numeral (zz n)).length ≤ _
    simp; omega
  | text s =>
    have := numeral_length 9 s.size (by have := h.2; omega)
    have h2 := h.2
    show (2#8 :: (numeral s.size ++ s.data.toList.map fun c => BitVec.ofNat 8 c.toNat)).length ≤ _
    have h3 : s.data.toList.length = s.size := rfl
    simp only [List.length_cons, List.length_append, List.length_map, h3]
    omega
theorem take_snocT {l : List Vt} {k : Nat} (h : k < l.length) : (l.take (k + 1)).flatMap bytesVt = (l.take k).flatMap bytesVt ++ bytesVt (l.getD k default) := by
  rw [List.take_add_one, List.flatMap_append, List.getElem?_eq_getElem h, List.getD_eq_getElem?_getD, List.getElem?_eq_getElem h]
  simp
theorem flatT_length {l : List Vt} (h : okT l) : ∀ k, k ≤ l.length → ((l.take k).flatMap bytesVt).length ≤ 1020 * k
  | 0, _ => by simp
  | k + 1, hk => by
    rw [take_snocT (by omega), List.length_append]
    have h1 := flatT_length h k (by omega)
    have h2 := bytesVt_length (h k (by omega))
    omega
set_option maxRecDepth 100000 in
set_option maxHeartbeats 2000000 in
theorem writeW_int (l : List B) (v : Value) (n : Int) (hn1 : -9223372036854775808 ≤ n) (hn2 : n ≤ 9223372036854775807) (w : World) (h : ownB w v l) (hl : l.length ≤ 1000000000) :
    Calls Tryz.prog 88 #[v, intV n] w fun e w' => ∃ v', e = .returned v' ∧ ownB w' v' (l ++ bytesVt (.int n)) ∧ Grew w w' v v' := by
  obtain ⟨i0, hi, hz0, hz1, hz2⟩ := info_parts infoB4
  have hg0 := Grew.alloc w v (.cells #[.int .i64 1, .int .i64 n, .string ⟨#[]⟩, .slice none 0 0] 101)
  have hown := h.alloc (.cells #[.int .i64 1, .int .i64 n, .string ⟨#[]⟩, .slice none 0 0] 101)
  have hc : (w.alloc (.cells #[.int .i64 1, .int .i64 n, .string ⟨#[]⟩, .slice none 0 0] 101)).cell? ⟨w.heap.size, 1, none⟩ = some (.int .i64 n) := by simp
  have hz : w.heap.size < (w.alloc (.cells #[.int .i64 1, .int .i64 n, .string ⟨#[]⟩, .slice none 0 0] 101)).heap.size := by simp
  have hne : v.ownBlock ≠ some w.heap.size := fun e => by have := (h.lt _ e).2; omega
  have hu := fun w => unsignedW_any n hn1 hn2 w
  have hbt : bytesVt (.int n) = 1#8 :: numeral (zz n) := rfl
  rw [hbt]
  have hm2 := zz_lt hn1 hn2
  obtain ⟨m, hm⟩ : ∃ m, zz n = m := ⟨_, rfl⟩
  rw [hm] at hu hm2 ⊢
  clear hbt
  have HU := Lib.hid hu
  clear hu hm
  go_enter Tryz.func88, Tryz.ntmps88
  go_wp2_with fail
  generalize w.alloc (.cells #[.int .i64 1, .int .i64 n, .string ⟨#[]⟩, .slice none 0 0] 101) = W at *
  refine wp_region_ord 6 [(1, 0), (1, 3), (1, 4), (2, 1), (2, 2), (2, 5)] (fun w' => w'.cell? ⟨w.heap.size, 1, none⟩ = some (.int .i64 n)) (by kernel_rfl) (by kernel_rfl) (fun _ _ d _ _ h => by cases d <;> exact h) hc ?_
  replace hg0 : Grew w W.drew v v := hg0.drew
  replace hown : ownB W.drew v l := hown.kept (grown_below' (Below.refl _ _).drew none) (Classical.em _)
  replace hc : W.drew.cell? ⟨w.heap.size, 1, none⟩ = some (.int .i64 n) := hc
  replace hz : w.heap.size < W.drew.heap.size := hz
  generalize W.drew = W1 at *
  iterate 3
    refine wpOrd_take (v := ?_) rfl (by rfl) (fun w hSw => ?_) ?_
    rotate_left 1
    · go_simp
      with_reducible rfl
    simp only [Act.put, List.setIfInBounds_toArray, List.set_cons_zero, List.set_cons_succ]
  refine wpOrd_step rfl (fun K hK => ⟨by rfl, ?_⟩)
  go_simp
  have hc1 : (W1.alloc (.cells #[.int .u8 1] 5)).cell? ⟨w.heap.size, 1, none⟩ = some (.int .i64 n) := (World.cell?_alloc_past _ _ _ hz).trans hc
  refine hK _ _ hc1 ?_
  clear hK K
  try simp only [Act.put, List.setIfInBounds_toArray, List.set_cons_zero, List.set_cons_succ]
  refine wpOrd_step rfl (fun K hK => ⟨by rfl, ?_⟩)
  refine wp_append_lies _ _ _ 102 rfl 0 5 i0 (.int .u8 0) 1 1 Tryz.underlying102 hi hz0 hz1 hz2 rfl (by decide) _ _ _ rfl (hown.alloc _) ⟨W1.heap.size, 0, none⟩ 1 1 [.int .u8 1] rfl rfl (cell_one_newB _ _ _) (by simp [Value.oneCell']) (by decide) (by unfold maxLen; omega) (by omega) (Nat.zero_le _) _ rfl ?_
  intro g cap w2 hown2 hgrow hat hlt
  replace hgrow : (W1.alloc (.cells #[.int .u8 1] 5)).grownBy w2 v.ownBlock := hgrow
  replace hat : v.ownBlock = some g ∨ g = (W1.alloc (.cells #[.int .u8 1] 5)).heap.size := hat
  have hg1 : Grew w w2 v (.slice (some ⟨g, 0, none⟩) (l.length + 1) cap) := hg0.trans ((Grew.alloc _ _ _).trans (Grew.lies hgrow hat))
  have hc2 : w2.cell? ⟨w.heap.size, 1, none⟩ = some (.int .i64 n) := (hgrow.cell_far _ (by simp; omega) (fun e => hne e.symm)).trans hc1
  refine hK _ _ hc2 ?_
  clear hK K
  try simp only [Act.put, List.setIfInBounds_toArray, List.set_cons_zero, List.set_cons_succ]
  refine wpOrd_step rfl (fun K hK => ⟨by rfl, ?_⟩)
  go_simp
  go_at_call 90
  refine (HU.out _).mono ?_
  rintro e w3 ⟨rfl, rfl⟩
  refine hK _ _ hc2 ?_
  clear hK K
  try simp only [Act.put, List.setIfInBounds_toArray, List.set_cons_zero, List.set_cons_succ]
  refine wpOrd_nil ?_
  simp only [List.drop_succ_cons, List.drop_zero]
  have hown3 : ownB w3 (.slice (some ⟨g, 0, none⟩) (l.length + 1) cap) (l ++ [1#8]) := ownB_snoc hown2 rfl
  go_wp2_with (go_at_call 89; (with_reducible refine (numeralW_any _ _ m hm2 _ hown3 (by simp; omega)).mono ?_); rintro e w4 ⟨v', rfl, ho, hg⟩)
  go_ret
  refine ⟨v', rfl, ?_, hg1.trans hg⟩
  rw [List.append_assoc] at ho
  exact ho
set_option maxRecDepth 100000 in
set_option maxHeartbeats 4000000 in
theorem writeT_list (l : List Vt) (A : Option Addr) (c b : Nat) (w : World) (h : SlT w w.heap.size (.slice A l.length c) l) (hs : okT l) (hl : l.length ≤ 1000) (hW : Wtr w b) :
    Calls Tryz.prog 92 #[.slice none 0 0, listV A l.length c, .pointer (some ⟨b + 1, 0, none⟩)] w fun e w' => ∃ v', e = .returned v' ∧ ownB w' v' (encT l) ∧ Below w.heap.size w w' := by
  obtain ⟨i0, hi, hz0, hz1, hz2⟩ := info_parts infoB4
  have HS := Lib.hid h
  have HN := Lib.hid hs
  have HW := Lib.hid hW
  have hwz := hW.var.lt
  have HE := Lib.hid (flatT_length hs)
  clear h hs hW
  have hB0 := below_alloc' w (.cells #[.int .i64 3, .int .i64 0, .string ⟨#[]⟩, .slice A l.length c] 101)
  have hc : (w.alloc (.cells #[.int .i64 3, .int .i64 0, .string ⟨#[]⟩, .slice A l.length c] 101)).cell? ⟨w.heap.size, 3, none⟩ = some (.slice A l.length c) := by simp
  have hz : w.heap.size < (w.alloc (.cells #[.int .i64 3, .int .i64 0, .string ⟨#[]⟩, .slice A l.length c] 101)).heap.size := by simp
  go_enter Tryz.func92, Tryz.ntmps92
  go_wp2_with fail
  generalize w.alloc (.cells #[.int .i64 3, .int .i64 0, .string ⟨#[]⟩, .slice A l.length c] 101) = W at *
  refine wp_region_ord 7 [(1, 0), (1, 3), (1, 4), (1, 5), (1, 6), (2, 1), (2, 2)] (fun w' => w'.cell? ⟨w.heap.size, 3, none⟩ = some (.slice A l.length c)) (by kernel_rfl) (by kernel_rfl) (fun _ _ d _ _ h => by cases d <;> exact h) hc ?_
  replace hB0 : Below w.heap.size w W.drew := hB0.drew
  replace hc : W.drew.cell? ⟨w.heap.size, 3, none⟩ = some (.slice A l.length c) := hc
  replace hz : w.heap.size < W.drew.heap.size := hz
  generalize W.drew = W1 at *
  iterate 4
    refine wpOrd_take (v := ?_) rfl (by rfl) (fun w hSw => ?_) ?_
    rotate_left 1
    · go_simp
      with_reducible rfl
    simp only [Act.put, List.setIfInBounds_toArray, List.set_cons_zero, List.set_cons_succ]
  refine wpOrd_take (v := .int .u64 (l.length : Int)) rfl (by rfl) (fun w hSw => ?_) ?_
  · go_simp
    rw [IntKind.wrap_u64]; omega
  simp only [Act.put, List.setIfInBounds_toArray, List.set_cons_zero, List.set_cons_succ]
  refine wpOrd_step rfl (fun K hK => ⟨by rfl, ?_⟩)
  go_simp
  have hc1 : (W1.alloc (.cells #[.int .u8 3] 5)).cell? ⟨w.heap.size, 3, none⟩ = some (.slice A l.length c) := (World.cell?_alloc_past _ _ _ hz).trans hc
  refine hK _ _ hc1 ?_
  clear hK K
  try simp only [Act.put, List.setIfInBounds_toArray, List.set_cons_zero, List.set_cons_succ]
  refine wpOrd_step rfl (fun K hK => ⟨by rfl, ?_⟩)
  refine wp_append_lies _ _ _ 102 rfl 0 5 i0 (.int .u8 0) 1 1 Tryz.underlying102 hi hz0 hz1 hz2 rfl (by decide) _ _ _ rfl (World.ownsRow_nil _ _ _ _) ⟨W1.heap.size, 0, none⟩ 1 1 [.int .u8 3] rfl rfl (cell_one_newB _ _ _) (by simp [Value.oneCell']) (by decide) (by unfold maxLen; omega) (by omega) (Nat.zero_le _) _ rfl ?_
  intro g cap w2 hown2 hgrow hat hlt
  replace hgrow : (W1.alloc (.cells #[.int .u8 3] 5)).grownBy w2 (Value.slice none 0 0).ownBlock := hgrow
  replace hat : (Value.slice none 0 0).ownBlock = some g ∨ g = (W1.alloc (.cells #[.int .u8 3] 5)).heap.size := hat
  have hg1 : Grew W1 w2 (.slice none 0 0) (.slice (some ⟨g, 0, none⟩) (0 + 1) cap) := (Grew.alloc _ _ _).trans (Grew.lies hgrow hat)
  have hc2 : w2.cell? ⟨w.heap.size, 3, none⟩ = some (.slice A l.length c) := hg1.cell hc hz (fun e => by cases e)
  refine hK _ _ hc2 ?_
  clear hK K
  try simp only [Act.put, List.setIfInBounds_toArray, List.set_cons_zero, List.set_cons_succ]
  refine wpOrd_nil ?_
  simp only [List.drop_succ_cons, List.drop_zero]
  have hown3 : ownB w2 (.slice (some ⟨g, 0, none⟩) (0 + 1) cap) [3#8] := hown2
  go_wp2_with (go_at_call 89; (with_reducible refine (numeral_any _ _ l.length (by omega) _ hown3 (by simp)).mono ?_); rintro e w4 ⟨v', rfl, ho, hg⟩; have hc4 : w4.cell? ⟨w.heap.size, 3, none⟩ = some (.slice A l.length c) := (hg1.trans hg).cell hc hz (fun e => by cases e))
  have hb4 : Below w.heap.size w w4 := hB0.trans (((hg1.trans hg).nil_below).mono hB0.size)
  have ho4 : ownB w4 v' (encHd l.length ++ (l.take 0).flatMap bytesVt) := by simpa [encHd] using ho
  have hlo4 : ∀ k, v'.ownBlock = some k → w.heap.size ≤ k := by
    intro k hk
    have h1 := hB0.size
    rcases (hg1.trans hg).o with e | ⟨i, e, hi⟩
    · rw [e] at hk; cases hk
    · rw [e] at hk; injection hk with hk; omega
  clear hc hz hc1 hown2 hlt hgrow hat hg1 hc2 hown3 ho hg hB0
  have hz4 := hb4.size
  go_loopg [0, 19] l.length (fun gh bv' iv wr => ∃ k : Nat, iv = .int .i64 k ∧ k + gh = l.length ∧ Below w.heap.size w wr ∧ Hid (∀ k, bv'.ownBlock = some k → w.heap.size ≤ k) ∧ ownB wr bv' (encHd l.length ++ (l.take k).flatMap bytesVt))
  case atStart => exact ⟨0, rfl, by omega, hb4, hlo4, ho4⟩
  case round =>
    clear ho4
    obtain ⟨k, rfl, hkg, hBr, HLO, hown⟩ := hrel
    have hzr := hBr.size
    by_cases hlt : k < l.length
    · obtain ⟨xb, o, c', hv, hb, d0, d1, d2, d3⟩ := SlT.get (HS.out.below hBr) hlt
      cases hv
      have hnn := HN.out k hlt
      have hsn := take_snocT hlt
      have hlen := HE.out k (by omega)
      have hhd := encHd_length (n := l.length) (by omega)
      have hfl : (encHd l.length ++ (l.take k).flatMap bytesVt).length ≤ 1000000000 := by rw [List.length_append]; omega
      obtain ⟨x, hx⟩ : ∃ x, l.getD k default = x := ⟨_, rfl⟩
      rw [hx] at d0 d1 d2 d3 hnn hsn
      have s1 : (0 : Int) ≤ k := by omega
      have s2 : (k : Int) < l.length := by omega
      have hbz : xb < wr.heap.size := by omega
      have hw := HW.out.below hBr
      clear hx hlen hhd
      obtain ⟨acc, hacc⟩ : ∃ acc, encHd l.length ++ (l.take k).flatMap bytesVt = acc := ⟨_, rfl⟩
      have HSN := Lib.hid hsn
      have HAC := Lib.hid hacc
      rw [hacc] at hown hfl
      clear hsn hacc
      cases x with
      | int n =>
        replace d0 : wr.cell? ⟨xb, o + k * 4, none⟩ = some (.int .i64 1) := d0
        replace d1 : wr.cell? ⟨xb, o + k * 4 + 1, none⟩ = some (.int .i64 n) := d1
        replace d2 : wr.cell? ⟨xb, o + k * 4 + 2, none⟩ = some (.string ⟨#[]⟩) := d2
        replace d3 : wr.cell? ⟨xb, o + k * 4 + 3, none⟩ = some (.slice none 0 0) := d3
        go_upto_region 5 with fail
        have r7 := Row.new wr 101 [.int .i64 1, .int .i64 n, .string ⟨#[]⟩, .slice none 0 0]
        have hwA : Wtr (wr.alloc (.cells #[.int .i64 1, .int .i64 n, .string ⟨#[]⟩, .slice none 0 0] 101)) b := hw.below (below_alloc' _ _)
        have hownA := hown.alloc (.cells #[.int .i64 1, .int .i64 n, .string ⟨#[]⟩, .slice none 0 0] 101)
        have hBA := hBr.alloc hzr (.cells #[.int .i64 1, .int .i64 n, .string ⟨#[]⟩, .slice none 0 0] 101)
        obtain ⟨W5, hW5⟩ : ∃ W5, wr.alloc (.cells #[.int .i64 1, .int .i64 n, .string ⟨#[]⟩, .slice none 0 0] 101) = W5 := ⟨_, rfl⟩
        replace r7 : Row W5 wr.heap.size 101 [.int .i64 1, .int .i64 n, .string ⟨#[]⟩, .slice none 0 0] := hW5 ▸ r7
        rw [hW5] at hwA hownA hBA ⊢
        clear hW5 hw d0 d1 d2 d3
        obtain ⟨e0, e1, e2, e3⟩ := st4 hwA.tab
        have ev := st1c hwA.var
        obtain ⟨k0, k1, k2, k3⟩ := st4 r7
        have t0 := hwA.tab.lt
        have t1 := hwA.var.lt
        have t2 := r7.lt
        replace hownA : ownB W5.drew u0 acc := World.ownsRow.kept hownA (grown_below' (Below.refl _ _).drew none) (Classical.em _)
        have hlow : ∀ k, u0.ownBlock = some k → w.heap.size ≤ k := HLO.out
        have HWI := Lib.hid (writeW_int acc u0 n hnn.1 hnn.2 _ hownA hfl)
        have HBA := Lib.hid hBA.drew
        clear hownA hBA hwA r7
        go_still_tail 9, (by kernel_rfl)
        repeat still_step
        try refine wpStill_nil ?_
        change wpList _ _ _ _ _ W5.drew
        go_wp2_with (go_at_call 88; (with_reducible refine HWI.out.mono ?_); rintro e w5 ⟨v5, rfl, ho5, hg5⟩)
        go_roundg (gk - 1)
        case measure => omega
        case rel =>
          refine ⟨k + 1, by first | rfl | go_num, by omega, ?_, ?_, ?_⟩
          · exact HBA.out.trans (hg5.below HBA.out.size hlow)
          · intro j hj
            rcases hg5.o with e | ⟨i, e, hi⟩
            · rw [e] at hj; exact hlow j hj
            · rw [e] at hj; injection hj with hj; have := HBA.out.size; omega
          · rw [HSN.out, ← List.append_assoc, HAC.out]
            exact ho5
      | text s =>
        replace d0 : wr.cell? ⟨xb, o + k * 4, none⟩ = some (.int .i64 2) := d0
        replace d1 : wr.cell? ⟨xb, o + k * 4 + 1, none⟩ = some (.int .i64 0) := d1
        replace d2 : wr.cell? ⟨xb, o + k * 4 + 2, none⟩ = some (.string s) := d2
        replace d3 : wr.cell? ⟨xb, o + k * 4 + 3, none⟩ = some (.slice none 0 0) := d3
        go_upto_region 5 with fail
        have r7 := Row.new wr 101 [.int .i64 2, .int .i64 0, .string s, .slice none 0 0]
        have hwA : Wtr (wr.alloc (.cells #[.int .i64 2, .int .i64 0, .string s, .slice none 0 0] 101)) b := hw.below (below_alloc' _ _)
        have hownA := hown.alloc (.cells #[.int .i64 2, .int .i64 0, .string s, .slice none 0 0] 101)
        have hBA := hBr.alloc hzr (.cells #[.int .i64 2, .int .i64 0, .string s, .slice none 0 0] 101)
        obtain ⟨W5, hW5⟩ : ∃ W5, wr.alloc (.cells #[.int .i64 2, .int .i64 0, .string s, .slice none 0 0] 101) = W5 := ⟨_, rfl⟩
        replace r7 : Row W5 wr.heap.size 101 [.int .i64 2, .int .i64 0, .string s, .slice none 0 0] := hW5 ▸ r7
        rw [hW5] at hwA hownA hBA ⊢
        clear hW5 hw d0 d1 d2 d3
        obtain ⟨e0, e1, e2, e3⟩ := st4 hwA.tab
        have ev := st1c hwA.var
        obtain ⟨k0, k1, k2, k3⟩ := st4 r7
        have t0 := hwA.tab.lt
        have t1 := hwA.var.lt
        have t2 := r7.lt
        replace hownA : ownB W5.drew u0 acc := World.ownsRow.kept hownA (grown_below' (Below.refl _ _).drew none) (Classical.em _)
        have hlow : ∀ k, u0.ownBlock = some k → w.heap.size ≤ k := HLO.out
        have HWI := Lib.hid (write_text acc u0 s hnn.2 _ hownA hfl)
        have HBA := Lib.hid hBA.drew
        clear hownA hBA hwA r7
        go_still_tail 9, (by kernel_rfl)
        repeat still_step
        try refine wpStill_nil ?_
        change wpList _ _ _ _ _ W5.drew
        go_wp2_with (go_at_call 91; (with_reducible refine HWI.out.mono ?_); rintro e w5 ⟨v5, rfl, ho5, hg5⟩)
        go_roundg (gk - 1)
        case measure => omega
        case rel =>
          refine ⟨k + 1, by first | rfl | go_num, by omega, ?_, ?_, ?_⟩
          · exact HBA.out.trans (hg5.below HBA.out.size hlow)
          · intro j hj
            rcases hg5.o with e | ⟨i, e, hi⟩
            · rw [e] at hj; exact hlow j hj
            · rw [e] at hj; injection hj with hj; have := HBA.out.size; omega
          · rw [HSN.out, ← List.append_assoc, HAC.out]
            exact ho5
    · obtain rfl : k = l.length := by omega
      rw [List.take_length] at hown
      go_wp2_with fail
      go_ret
      exact ⟨_, rfl, hown, hBr⟩
set_option maxRecDepth 100000 in
set_option maxHeartbeats 4000000 in
theorem encodeT_list (l : List Vt) (A : Option Addr) (c : Nat) (w : World) (h : SlT w w.heap.size (.slice A l.length c) l) (hs : okT l) (hp : 1 ≤ l.length) (hl : l.length ≤ 1000) :
    Calls Tryz.prog 54 #[listV A l.length c] w fun e w' => ∃ v, e = .returned (.tuple #[v, .int .i64 0]) ∧ ownB w' v (encT l) ∧ Below w.heap.size w w' := by
  have HS := Lib.hid h
  have HN := Lib.hid hs
  clear h hs
  have hB0 := below_alloc' w (.cells #[.int .i64 3, .int .i64 0, .string ⟨#[]⟩, .slice A l.length c] 101)
  have r0 := Row.new w 101 [.int .i64 3, .int .i64 0, .string ⟨#[]⟩, .slice A l.length c]
  have hz : w.heap.size < (w.alloc (.cells #[.int .i64 3, .int .i64 0, .string ⟨#[]⟩, .slice A l.length c] 101)).heap.size := by simp
  go_enter Tryz.func54, Tryz.ntmps54
  obtain ⟨W, hW⟩ : ∃ W, w.alloc (.cells #[.int .i64 3, .int .i64 0, .string ⟨#[]⟩, .slice A l.length c] 101) = W := ⟨_, rfl⟩
  replace r0 : Row W w.heap.size 101 [.int .i64 3, .int .i64 0, .string ⟨#[]⟩, .slice A l.length c] := hW ▸ r0
  rw [hW] at hB0 hz
  have hck := ccheckT_list l A c W ((HS.out.below hB0).mono hB0.size) HN.out hp
  have HCK := Lib.hid hck
  clear hck
  go_upto_region 1 with fail
  clear hW
  obtain ⟨k0, k1, k2, k3⟩ := st4 r0
  go_upto_region 4 with (go_at_call 74; (with_reducible refine HCK.out.mono ?_); rintro e w1 ⟨rfl, hb⟩; replace r0 := r0.below hb hz; replace hB0 := hB0.trans (hb.mono hB0.size); replace hz := lt_of_lt_of_le' hz hb.size; clear k0 k1 k2 k3; obtain ⟨k0, k1, k2, k3⟩ := st4 r0)
  refine wp_region_ord 8 [(1, 1), (1, 2), (1, 7), (2, 0), (2, 3), (2, 4), (2, 5), (2, 6)] (fun w' => w'.cell? ⟨w.heap.size, 0, none⟩ = some (.int .i64 3) ∧ w'.cell? ⟨w.heap.size, 1, none⟩ = some (.int .i64 0) ∧ w'.cell? ⟨w.heap.size, 2, none⟩ = some (.string ⟨#[]⟩) ∧ w'.cell? ⟨w.heap.size, 3, none⟩ = some (.slice A l.length c)) (by kernel_rfl) (by kernel_rfl) (fun _ _ d _ _ h => by cases d <;> exact h) ⟨k0, k1, k2, k3⟩ ?_
  replace hB0 : Below w.heap.size w w1.drew := hB0.drew
  replace r0 : Row w1.drew w.heap.size 101 [.int .i64 3, .int .i64 0, .string ⟨#[]⟩, .slice A l.length c] := r0
  replace hz : w.heap.size < w1.drew.heap.size := hz
  clear k0 k1 k2 k3
  generalize w1.drew = W1 at *
  iterate 3
    refine wpOrd_take (v := ?_) rfl (by rfl) (fun w hSw => ?_) ?_
    rotate_left 1
    · obtain ⟨k0, k1, k2, k3⟩ := hSw
      go_simp
      with_reducible rfl
    simp only [Act.put, List.setIfInBounds_toArray, List.set_cons_zero, List.set_cons_succ]
  refine wpOrd_step rfl (fun K hK => ⟨by rfl, ?_⟩)
  go_simp
  go_at_call 75
  refine (newWriter_any _).mono ?_
  rintro e w2 ⟨rfl, hwt, hb⟩
  replace r0 := r0.below hb hz
  replace hB0 := hB0.trans (hb.mono hB0.size)
  have k := st4 r0
  refine hK _ _ k ?_
  clear hK K
  obtain ⟨e0, e1, e2, e3⟩ := st4 hwt.tab
  iterate 4
    refine wpOrd_step rfl (fun K hK => ⟨by rfl, ?_⟩)
    go_simp
    refine hK _ _ k ?_
    clear hK K
  refine wpOrd_nil ?_
  simp only [List.drop_succ_cons, List.drop_zero]
  have hS2 := (HS.out.below hB0).mono hB0.size
  have hwl := writeT_list l A c W1.heap.size w2 hS2 HN.out hl hwt
  have HWL := Lib.hid hwl
  clear hwl hS2 k e0 e1 e2 e3
  go_wp2_with (go_at_call 92; (with_reducible refine HWL.out.mono ?_); rintro e w3 ⟨v', rfl, ho, hb3⟩)
  go_ret2
  exact ⟨v', rfl, ho, hB0.trans (hb3.mono hB0.size)⟩
end Go.Proofs.YthboebhghaabnaaGreatDoor

set_option linter.unusedSimpArgs false
set_option linter.unusedVariables false
namespace Go.Proofs.YthboebhghaabnaaGreatDoor
open Go.RowKit Fk Sha
theorem own_slG {α : Type} [Inhabited α] {m : Nat} {enc : α → List Value} {w : World} {base n : Nat} {e : TypeId} {v : Value} {l : List α} (h : w.ownsRow base e m v n (l.flatMap enc)) (hm : ∀ a, (enc a).length = m) (hn : n = l.length) (hl : l.length ≤ 9223372036854775807) :
    SlG m enc w w.heap.size v l := by
  subst hn
  rcases h.2 with ⟨rfl, h0⟩ | ⟨g, cap, cur, rfl, hb, hg, hnc, hc, hcs, ht⟩
  · obtain rfl : l = [] := List.eq_nil_of_length_eq_zero h0
    exact SlG.nil_ _ _
  · have hr : Row w g e cur.toList := by show w.heap[g]? = _; rw [hg]
    refine ⟨hl, _, _, rfl, fun hp => ⟨g, 0, rfl, hr.lt, ?_⟩⟩
    have hrow : Row (w.alloc (.cells (l.flatMap enc).toArray e)) w.heap.size e (l.flatMap enc) := Row.new w e _
    obtain ⟨_, A, c, hv, hE⟩ := Row.sl (c := 0) hrow hm hl (B0 := w.heap.size + 1) (by omega)
    obtain ⟨b, off, hA, _, hE⟩ := hE hp
    injection hv with hv1 hv2 hv3
    rw [hA] at hv1
    injection hv1 with hv1
    injection hv1 with hb' ho'
    intro i hi j hj
    have h2 := hE i hi j hj
    rw [← hb', ← ho', hrow.cell] at h2
    rw [hr.cell, ← h2, ← ht, List.getElem?_take_of_lt]
    have : (i + 1) * m ≤ l.length * m := Nat.mul_le_mul_right m (by omega)
    rw [Nat.succ_mul] at this
    omega
theorem infoV4 : (Tryz.prog.info? 101).map (fun i => (i.zero, i.size, i.bytes)) = some (some (.agg #[.int .i64 0, .int .i64 0, .string ⟨#[]⟩, .slice none 0 0]), 4, 56) := by kernel_rfl
theorem cell_four (w : World) (a b c d : Value) (t : TypeId) : ∀ j u, [a, b, c, d][j]? = some u → (w.alloc (.cells #[a, b, c, d] t)).cell? ((⟨w.heap.size, 0, none⟩ : Addr).add j) = some u := by
  intro j u hj
  match j, hj with
  | 0, hj => simp at hj; subst hj; simp [Addr.add]
  | 1, hj => simp at hj; subst hj; simp [Addr.add]
  | 2, hj => simp at hj; subst hj; simp [Addr.add]
  | 3, hj => simp at hj; subst hj; simp [Addr.add]
  | (j + 4), hj => simp at hj
end Go.Proofs.YthboebhghaabnaaGreatDoor

/-! Plain arithmetic: Gauss's lemma for odd moduli, reciprocity, powers modulo a prime. -/
namespace Fk

/-! ### permutations -/
theorem perm_of_subset : ∀ (l m : List Nat), l.Nodup → (∀ a ∈ l, a ∈ m) → m.length ≤ l.length → l.Perm m
  | [], m, _, _, h => by
    have : m = [] := List.eq_nil_of_length_eq_zero (by simpa using h)
    subst this; exact List.Perm.nil
  | a :: t, m, hn, hs, h => by
    have ha : a ∈ m := hs a (by simp)
    have hp := List.perm_cons_erase ha
    rw [List.nodup_cons] at hn
    have ht : t.Perm (m.erase a) := by
      refine perm_of_subset t (m.erase a) hn.2 (fun b hb => ?_) ?_
      · have hne : b ≠ a := fun e => hn.1 (e ▸ hb)
        exact (List.mem_erase_of_ne hne).2 (hs b (by simp [hb]))
      · have := List.length_erase_of_mem ha
        simp at h; omega
    exact (ht.cons a).trans hp.symm

theorem perm_range_map (h : Nat) (f : Nat → Nat) (hf : ∀ k, k < h → f k < h) (hi : ∀ i j, i < h → j < h → f i = f j → i = j) :
    ((List.range h).map f).Perm (List.range h) := by
  refine perm_of_subset _ _ ?_ ?_ (by simp)
  · rw [List.Nodup, List.pairwise_map]
    have hn : (List.range h).Nodup := List.nodup_range
    rw [List.Nodup] at hn
    refine List.Pairwise.imp_of_mem ?_ hn
    intro a b ha hb hne he
    exact hne (hi a b (by simpa using ha) (by simpa using hb) he)
  · intro a ha
    obtain ⟨k, hk, rfl⟩ := List.mem_map.1 ha
    simpa using hf k (by simpa using hk)

/-! ### the count of Gauss -/
def mu (a n : Nat) : Nat := (List.range (n / 2)).countP fun k => decide (n / 2 < a * (k + 1) % n)
def jac (a n : Nat) : Bool := mu a n % 2 == 0
def sg (a n k : Nat) : Nat := if n / 2 < a * (k + 1) % n then n - a * (k + 1) % n - 1 else a * (k + 1) % n - 1

theorem res_ne {a n k : Nat} (hc : Nat.Coprime a n) (hk : k + 1 < n) : a * (k + 1) % n ≠ 0 := by
  intro h
  have hd : n ∣ a * (k + 1) := Nat.dvd_of_mod_eq_zero h
  have := Nat.Coprime.dvd_of_dvd_mul_left hc.symm hd
  have := Nat.le_of_dvd (by omega) this
  omega

theorem sg_lt {a n k : Nat} (ho : n % 2 = 1) (hc : Nat.Coprime a n) (hk : k < n / 2) : sg a n k < n / 2 := by
  have h0 := res_ne hc (show k + 1 < n by omega)
  have h1 := Nat.mod_lt (a * (k + 1)) (show 0 < n by omega)
  unfold sg
  split <;> omega

theorem sg_inj {a n : Nat} (ho : n % 2 = 1) (hc : Nat.Coprime a n) (i j : Nat) (hi : i < n / 2) (hj : j < n / 2) (h : sg a n i = sg a n j) : i = j := by
  have hi0 := res_ne hc (show i + 1 < n by omega)
  have hj0 := res_ne hc (show j + 1 < n by omega)
  have hi1 := Nat.mod_lt (a * (i + 1)) (show 0 < n by omega)
  have hj1 := Nat.mod_lt (a * (j + 1)) (show 0 < n by omega)
  have key : a * (i + 1) % n = a * (j + 1) % n ∨ a * (i + 1) % n + a * (j + 1) % n = n := by
    unfold sg at h
    split at h <;> split at h <;> omega
  rcases key with he | he
  · -- differences
    have wl : ∀ p q : Nat, p ≤ q → q < n / 2 → a * (p + 1) % n = a * (q + 1) % n → p = q := by
      intro p q hpq hq he
      have hd : n ∣ a * (q - p) := by
        have h2 : (a * (q + 1) - a * (p + 1)) % n = 0 := Nat.sub_mod_eq_zero_of_mod_eq he.symm
        have h3 : a * (q + 1) - a * (p + 1) = a * (q - p) := by rw [← Nat.mul_sub]; congr 1; omega
        rw [h3] at h2; exact Nat.dvd_of_mod_eq_zero h2
      have := Nat.Coprime.dvd_of_dvd_mul_left hc.symm hd
      rcases Nat.eq_zero_or_pos (q - p) with h0 | h0
      · omega
      · have := Nat.le_of_dvd h0 this; omega
    rcases Nat.le_total i j with hij | hij
    · exact wl i j hij hj he
    · exact (wl j i hij hi he.symm).symm
  · exfalso
    have h2 : (a * (i + 1) + a * (j + 1)) % n = 0 := by rw [Nat.add_mod, he, Nat.mod_self]
    have hd : n ∣ a * (i + j + 2) := by
      have e : a * (i + 1) + a * (j + 1) = a * (i + j + 2) := by rw [← Nat.mul_add]; congr 1; omega
      rw [e] at h2; exact Nat.dvd_of_mod_eq_zero h2
    have := Nat.Coprime.dvd_of_dvd_mul_left hc.symm hd
    have := Nat.le_of_dvd (by omega) this
    omega

theorem sg_perm {a n : Nat} (ho : n % 2 = 1) (hc : Nat.Coprime a n) : ((List.range (n / 2)).map (sg a n)).Perm (List.range (n / 2)) :=
  perm_range_map _ _ (fun _ hk => sg_lt ho hc hk) (fun i j hi hj h => sg_inj ho hc i j hi hj h)

theorem countP_xor (p q : Nat → Bool) : ∀ l : List Nat, (l.countP fun k => p k ^^ q k) % 2 = (l.countP p + l.countP q) % 2
  | [] => rfl
  | a :: t => by
    have ih := countP_xor p q t
    rw [List.countP_cons, List.countP_cons, List.countP_cons]
    cases p a <;> cases q a <;> simp <;> omega

theorem countP_congr' (p q : Nat → Bool) : ∀ l : List Nat, (∀ k ∈ l, p k = q k) → l.countP p = l.countP q
  | [], _ => rfl
  | a :: t, h => by
    rw [List.countP_cons, List.countP_cons, countP_congr' p q t (fun k hk => h k (by simp [hk])), h a (by simp)]

theorem neg_mul {a b n k : Nat} (ho : n % 2 = 1) (ha : Nat.Coprime a n) (hb : Nat.Coprime b n) (hk : k < n / 2) :
    decide (n / 2 < (a * b) * (k + 1) % n) = (decide (n / 2 < b * (k + 1) % n) ^^ decide (n / 2 < a * (sg b n k + 1) % n)) := by
  have h0 := res_ne hb (show k + 1 < n by omega)
  have h1 := Nat.mod_lt (b * (k + 1)) (show 0 < n by omega)
  have hab : Nat.Coprime (a * b) n := Nat.Coprime.mul_left ha hb
  have hr0 := res_ne hab (show k + 1 < n by omega)
  have hr1 := Nat.mod_lt (a * b * (k + 1)) (show 0 < n by omega)
  have e1 : a * b * (k + 1) % n = a * (b * (k + 1) % n) % n := by
    rw [Nat.mul_assoc, Nat.mul_mod, Nat.mul_mod a (b * (k + 1) % n), Nat.mod_mod]
  by_cases hs : n / 2 < b * (k + 1) % n
  · have es : sg b n k + 1 = n - b * (k + 1) % n := by unfold sg; rw [if_pos hs]; omega
    rw [es]
    generalize b * (k + 1) % n = r at *
    have e2 : (a * (n - r) + a * r) % n = 0 := by
      rw [← Nat.mul_add, Nat.sub_add_cancel (by omega)]; exact Nat.mul_mod_left a n
    rw [Nat.add_mod, ← e1] at e2
    have h3 := Nat.mod_lt (a * (n - r)) (show 0 < n by omega)
    generalize a * (n - r) % n = u at *
    generalize a * b * (k + 1) % n = v at *
    have e3 : u + v = n := by
      rcases Nat.lt_or_ge (u + v) n with hl | hl
      · rw [Nat.mod_eq_of_lt hl] at e2; omega
      · have : (u + v) % n = u + v - n := by rw [Nat.mod_eq_sub_mod hl, Nat.mod_eq_of_lt (by omega)]
        omega
    simp only [hs, decide_true, Bool.true_xor]
    by_cases hu : n / 2 < u
    · have : ¬ n / 2 < v := by omega
      simp [hu, this]
    · have : n / 2 < v := by omega
      simp [hu, this]
  · have es : sg b n k + 1 = b * (k + 1) % n := by unfold sg; rw [if_neg hs]; omega
    rw [es, e1]
    simp [hs]

theorem mu_mul {a b n : Nat} (ho : n % 2 = 1) (ha : Nat.Coprime a n) (hb : Nat.Coprime b n) : mu (a * b) n % 2 = (mu a n + mu b n) % 2 := by
  unfold mu
  rw [countP_congr' _ (fun k => decide (n / 2 < b * (k + 1) % n) ^^ decide (n / 2 < a * (sg b n k + 1) % n)) _ (fun k hk => neg_mul ho ha hb (by simpa using hk)), countP_xor]
  have := List.Perm.countP_eq (fun k => decide (n / 2 < a * (k + 1) % n)) (sg_perm ho hb)
  rw [List.countP_map] at this
  have e : (List.range (n / 2)).countP (fun k => decide (n / 2 < a * (sg b n k + 1) % n)) = (List.range (n / 2)).countP (fun k => decide (n / 2 < a * (k + 1) % n)) := this
  rw [e]; omega

theorem jac_mul {a b n : Nat} (ho : n % 2 = 1) (ha : Nat.Coprime a n) (hb : Nat.Coprime b n) : jac (a * b) n = (jac a n == jac b n) := by
  have h := mu_mul ho ha hb
  unfold jac
  rw [h]
  rcases Nat.mod_two_eq_zero_or_one (mu a n) with h1 | h1 <;> rcases Nat.mod_two_eq_zero_or_one (mu b n) with h2 | h2 <;>
    simp [h1, h2, Nat.add_mod]

theorem jac_mod (a n : Nat) : jac (a % n) n = jac a n := by
  have e : ∀ k, (a % n) * (k + 1) % n = a * (k + 1) % n := fun k => by rw [Nat.mul_mod, Nat.mod_mod, ← Nat.mul_mod]
  unfold jac mu
  simp only [e]

theorem jac_one {n : Nat} (_ : n % 2 = 1) : jac 1 n = true := by
  have e : mu 1 n = 0 := by
    unfold mu
    rw [List.countP_eq_zero]
    intro k hk
    have hk' : k < n / 2 := by simpa using hk
    have : 1 * (k + 1) % n = k + 1 := by rw [Nat.one_mul]; exact Nat.mod_eq_of_lt (by omega)
    simp only [decide_eq_true_eq]; rw [this]; omega
  simp [jac, e]

theorem count_gt (h c : Nat) : (List.range h).countP (fun k => decide (c ≤ k)) = h - c := by
  induction h with
  | zero => simp
  | succ h ih =>
    rw [List.range_succ, List.countP_append, ih]
    by_cases hc : c ≤ h
    · simp [hc]; omega
    · simp [hc]; omega

theorem jac_two {n : Nat} (ho : n % 2 = 1) : jac 2 n = !(n % 8 == 3 || n % 8 == 5) := by
  have e : mu 2 n = n / 2 - n / 4 := by
    unfold mu
    rw [countP_congr' _ (fun k => decide (n / 4 ≤ k)), count_gt]
    intro k hk
    have hk' : k < n / 2 := by simpa using hk
    have : 2 * (k + 1) % n = 2 * (k + 1) := Nat.mod_eq_of_lt (by omega)
    rw [this]
    by_cases h : n / 4 ≤ k
    · have : n / 2 < 2 * (k + 1) := by omega
      simp [h, this]
    · have : ¬ n / 2 < 2 * (k + 1) := by omega
      simp [h, this]
  unfold jac
  rw [e]
  have h8 : n % 8 = 1 ∨ n % 8 = 3 ∨ n % 8 = 5 ∨ n % 8 = 7 := by omega
  rcases h8 with h | h | h | h
  · have : (n / 2 - n / 4) % 2 = 0 := by omega
    simp [h, this]
  · have : (n / 2 - n / 4) % 2 = 1 := by omega
    simp [h, this]
  · have : (n / 2 - n / 4) % 2 = 1 := by omega
    simp [h, this]
  · have : (n / 2 - n / 4) % 2 = 0 := by omega
    simp [h, this]

/-! ### reciprocity -/
def sumTo (h : Nat) (f : Nat → Nat) : Nat := ((List.range h).map f).sum

theorem sumTo_succ (h : Nat) (f : Nat → Nat) : sumTo (h + 1) f = sumTo h f + f h := by
  unfold sumTo; rw [List.range_succ, List.map_append, List.sum_append]; simp
theorem sumTo_zero (f : Nat → Nat) : sumTo 0 f = 0 := rfl
theorem sumTo_congr {h : Nat} {f g : Nat → Nat} (hfg : ∀ k, k < h → f k = g k) : sumTo h f = sumTo h g := by
  induction h with
  | zero => rfl
  | succ h ih => rw [sumTo_succ, sumTo_succ, ih (fun k hk => hfg k (by omega)), hfg h (by omega)]
theorem sumTo_add (h : Nat) (f g : Nat → Nat) : sumTo h (fun k => f k + g k) = sumTo h f + sumTo h g := by
  induction h with
  | zero => rfl
  | succ h ih => rw [sumTo_succ, sumTo_succ, sumTo_succ, ih]; omega
theorem sumTo_const (h c : Nat) : sumTo h (fun _ => c) = h * c := by
  induction h with
  | zero => simp [sumTo_zero]
  | succ h ih => rw [sumTo_succ, ih, Nat.succ_mul]
theorem sumTo_parity (h : Nat) (f g : Nat → Nat) (hfg : ∀ k, k < h → f k % 2 = g k % 2) : sumTo h f % 2 = sumTo h g % 2 := by
  induction h with
  | zero => rfl
  | succ h ih =>
    have := ih (fun k hk => hfg k (by omega))
    have := hfg h (by omega)
    rw [sumTo_succ, sumTo_succ]; omega
theorem sumTo_swap (h g : Nat) (f : Nat → Nat → Nat) : sumTo h (fun k => sumTo g (fun j => f k j)) = sumTo g (fun j => sumTo h (fun k => f k j)) := by
  induction h with
  | zero => rw [sumTo_zero]; rw [sumTo_congr (g := fun _ => 0) (fun k _ => sumTo_zero _), sumTo_const]; simp
  | succ h ih => rw [sumTo_succ, ih, ← sumTo_add]; exact sumTo_congr (fun j _ => (sumTo_succ _ _).symm)
theorem countP_sumTo (h : Nat) (p : Nat → Bool) : (List.range h).countP p = sumTo h (fun k => if p k then 1 else 0) := by
  induction h with
  | zero => rfl
  | succ h ih =>
    rw [List.range_succ, List.countP_append, ih, sumTo_succ]
    cases hp : p h <;> simp [hp]

/-- how many j below g have (j + 1) * b ≤ x -/
theorem count_div (g b x : Nat) (hb : 0 < b) (hx : x / b ≤ g) : sumTo g (fun j => if b * (j + 1) ≤ x then 1 else 0) = x / b := by
  have h1 : ∀ g, sumTo g (fun j => if b * (j + 1) ≤ x then 1 else 0) = min g (x / b) := by
    intro g
    induction g with
    | zero => simp [sumTo_zero]
    | succ g ih =>
      rw [sumTo_succ, ih]
      by_cases h : b * (g + 1) ≤ x
      · have : g + 1 ≤ x / b := (Nat.le_div_iff_mul_le hb).2 (by rw [Nat.mul_comm]; exact h)
        rw [if_pos h]; omega
      · have : ¬ g + 1 ≤ x / b := fun hc => h (by have := (Nat.le_div_iff_mul_le hb).1 hc; rw [Nat.mul_comm]; exact this)
        rw [if_neg h]; omega
  rw [h1]; omega

theorem lattice {a n : Nat} (ha : a % 2 = 1) (hn : n % 2 = 1) (hc : Nat.Coprime a n) :
    sumTo (n / 2) (fun k => a * (k + 1) / n) + sumTo (a / 2) (fun j => n * (j + 1) / a) = (n / 2) * (a / 2) := by
  have b1 : ∀ k, k < n / 2 → a * (k + 1) / n ≤ a / 2 := by
    intro k hk
    have h1 : a * (k + 1) < n * (a / 2 + 1) := by
      have h2 : a * (k + 1) ≤ a * (n / 2) := Nat.mul_le_mul_left a (by omega)
      have h3 : 2 * (a * (n / 2)) < 2 * (n * (a / 2 + 1)) := by
        have e1 : 2 * (a * (n / 2)) = a * (n - 1) := by
          rw [Nat.mul_left_comm]; congr 1; omega
        have e2 : 2 * (n * (a / 2 + 1)) = n * (a + 1) := by
          rw [Nat.mul_left_comm]; congr 1; omega
        rw [e1, e2]
        have e3 : a * (n - 1) ≤ a * n := Nat.mul_le_mul_left a (by omega)
        have e4 : n * (a + 1) = a * n + n := by rw [Nat.mul_add, Nat.mul_comm n a, Nat.mul_one]
        omega
      omega
    have := (Nat.div_lt_iff_lt_mul (show 0 < n by omega)).2 (by rw [Nat.mul_comm]; exact h1)
    omega
  have b2 : ∀ j, j < a / 2 → n * (j + 1) / a ≤ n / 2 := by
    intro j hj
    have h1 : n * (j + 1) < a * (n / 2 + 1) := by
      have h2 : n * (j + 1) ≤ n * (a / 2) := Nat.mul_le_mul_left n (by omega)
      have h3 : 2 * (n * (a / 2)) < 2 * (a * (n / 2 + 1)) := by
        have e1 : 2 * (n * (a / 2)) = n * (a - 1) := by
          rw [Nat.mul_left_comm]; congr 1; omega
        have e2 : 2 * (a * (n / 2 + 1)) = a * (n + 1) := by
          rw [Nat.mul_left_comm]; congr 1; omega
        rw [e1, e2]
        have e3 : n * (a - 1) ≤ n * a := Nat.mul_le_mul_left n (by omega)
        have e4 : a * (n + 1) = n * a + a := by rw [Nat.mul_add, Nat.mul_comm a n, Nat.mul_one]
        omega
      omega
    have := (Nat.div_lt_iff_lt_mul (show 0 < a by omega)).2 (by rw [Nat.mul_comm]; exact h1)
    omega
  have e1 : sumTo (n / 2) (fun k => a * (k + 1) / n) = sumTo (n / 2) (fun k => sumTo (a / 2) (fun j => if n * (j + 1) ≤ a * (k + 1) then 1 else 0)) :=
    sumTo_congr fun k hk => (count_div (a / 2) n (a * (k + 1)) (by omega) (b1 k hk)).symm
  have e2 : sumTo (a / 2) (fun j => n * (j + 1) / a) = sumTo (a / 2) (fun j => sumTo (n / 2) (fun k => if a * (k + 1) ≤ n * (j + 1) then 1 else 0)) :=
    sumTo_congr fun j hj => (count_div (n / 2) a (n * (j + 1)) (by omega) (b2 j hj)).symm
  rw [e1, e2, sumTo_swap, ← sumTo_add]
  have e3 : ∀ j, j < a / 2 → sumTo (n / 2) (fun k => if n * (j + 1) ≤ a * (k + 1) then 1 else 0) + sumTo (n / 2) (fun k => if a * (k + 1) ≤ n * (j + 1) then 1 else 0) = n / 2 := by
    intro j hj
    rw [← sumTo_add, sumTo_congr (g := fun _ => 1), sumTo_const, Nat.mul_one]
    intro k hk
    have hne : n * (j + 1) ≠ a * (k + 1) := by
      intro he
      have hd : n ∣ a * (k + 1) := ⟨j + 1, he.symm⟩
      have := Nat.Coprime.dvd_of_dvd_mul_left hc.symm hd
      have := Nat.le_of_dvd (by omega) this
      omega
    rcases Nat.lt_or_gt_of_ne hne with h | h
    · rw [if_pos (by omega), if_neg (by omega)]
    · rw [if_neg (by omega), if_pos (by omega)]
  rw [sumTo_congr e3, sumTo_const, Nat.mul_comm]

theorem mu_floor {a n : Nat} (ha : a % 2 = 1) (hn : n % 2 = 1) (hc : Nat.Coprime a n) : mu a n % 2 = sumTo (n / 2) (fun k => a * (k + 1) / n) % 2 := by
  have hperm := (sg_perm hn hc).sum_nat
  have hs : sumTo (n / 2) (sg a n) = sumTo (n / 2) (fun k => k) := by
    unfold sumTo; rw [hperm, List.map_id']
  have hs1 : sumTo (n / 2) (fun k => sg a n k + 1) = sumTo (n / 2) (fun k => k + 1) := by
    rw [sumTo_add, sumTo_add, hs]
  -- termwise parity: (k+1) ≡ floor + neg + (sg+1)
  have ht : sumTo (n / 2) (fun k => k + 1) % 2 = sumTo (n / 2) (fun k => (a * (k + 1) / n + (if n / 2 < a * (k + 1) % n then 1 else 0)) + (sg a n k + 1)) % 2 := by
    apply sumTo_parity
    intro k hk
    have h0 := res_ne hc (show k + 1 < n by omega)
    have h1 := Nat.mod_lt (a * (k + 1)) (show 0 < n by omega)
    have hd := Nat.div_add_mod (a * (k + 1)) n
    have hp1 : (a * (k + 1)) % 2 = (k + 1) % 2 := by rw [Nat.mul_mod, ha, Nat.one_mul, Nat.mod_mod]
    have hp2 : (n * (a * (k + 1) / n)) % 2 = (a * (k + 1) / n) % 2 := by rw [Nat.mul_mod, hn, Nat.one_mul, Nat.mod_mod]
    unfold sg
    generalize a * (k + 1) % n = r at *
    generalize n * (a * (k + 1) / n) = u at *
    generalize a * (k + 1) / n = q at *
    generalize a * (k + 1) = v at *
    split <;> omega
  rw [sumTo_add _ (fun k => a * (k + 1) / n + (if n / 2 < a * (k + 1) % n then 1 else 0)) (fun k => sg a n k + 1), sumTo_add _ (fun k => a * (k + 1) / n), hs1] at ht
  have hm : mu a n = sumTo (n / 2) (fun k => if n / 2 < a * (k + 1) % n then 1 else 0) := by
    unfold mu; rw [countP_sumTo]
    exact sumTo_congr (fun k _ => by by_cases h : n / 2 < a * (k + 1) % n <;> simp [h])
  rw [hm]
  omega

theorem recip {a n : Nat} (ha : a % 2 = 1) (hn : n % 2 = 1) (hc : Nat.Coprime a n) : jac a n = (jac n a ^^ (a % 4 == 3 && n % 4 == 3)) := by
  have h1 := mu_floor ha hn hc
  have h2 := mu_floor hn ha hc.symm
  have h3 := lattice ha hn hc
  have h4 : (mu a n + mu n a) % 2 = (n / 2) * (a / 2) % 2 := by rw [← h3]; omega
  have h5 : (n / 2) * (a / 2) % 2 = if a % 4 = 3 ∧ n % 4 = 3 then 1 else 0 := by
    rw [Nat.mul_mod]
    by_cases h : a % 4 = 3
    · by_cases h' : n % 4 = 3
      · have e1 : n / 2 % 2 = 1 := by omega
        have e2 : a / 2 % 2 = 1 := by omega
        simp [h, h', e1, e2]
      · have e1 : n / 2 % 2 = 0 := by omega
        simp [h', e1]
    · have e2 : a / 2 % 2 = 0 := by omega
      simp [h, e2]
  rw [h5] at h4
  unfold jac
  by_cases h : a % 4 = 3 ∧ n % 4 = 3
  · rw [if_pos h] at h4
    have : (mu a n % 2 = 0 ∧ mu n a % 2 = 1) ∨ (mu a n % 2 = 1 ∧ mu n a % 2 = 0) := by omega
    rcases this with ⟨x, y⟩ | ⟨x, y⟩ <;> simp [x, y, h.1, h.2]
  · rw [if_neg h] at h4
    have hb : (a % 4 == 3 && n % 4 == 3) = false := by
      by_cases h' : a % 4 = 3
      · have : ¬ n % 4 = 3 := fun e => h ⟨h', e⟩
        simp [this]
      · simp [h']
    have : (mu a n % 2 = 0 ∧ mu n a % 2 = 0) ∨ (mu a n % 2 = 1 ∧ mu n a % 2 = 1) := by omega
    rcases this with ⟨x, y⟩ | ⟨x, y⟩ <;> simp [x, y, hb]

end Fk

namespace Fk

/-! ### the two primes -/
def noDiv : Nat → Nat → Nat → Bool
  | 0, d, n => n % d != 0
  | k + 1, d, n => noDiv k d n && noDiv k (d + 2 ^ (k + 1)) n

theorem noDiv_spec : ∀ (k d n : Nat), noDiv k d n = true → ∀ i, i < 2 ^ k → n % (d + 2 * i) ≠ 0
  | 0, d, n, h, i, hi => by
    have : i = 0 := by simpa using hi
    subst this
    simpa [noDiv] using h
  | k + 1, d, n, h, i, hi => by
    simp only [noDiv, Bool.and_eq_true] at h
    by_cases hk : i < 2 ^ k
    · exact noDiv_spec k d n h.1 i hk
    · have h2 : 2 ^ (k + 1) = 2 ^ k * 2 := Nat.pow_succ 2 k
      have := noDiv_spec k (d + 2 ^ (k + 1)) n h.2 (i - 2 ^ k) (by omega)
      have e : d + 2 ^ (k + 1) + 2 * (i - 2 ^ k) = d + 2 * i := by omega
      rwa [e] at this

def IsP (n : Nat) : Prop := 1 < n ∧ ∀ d, d ∣ n → d = 1 ∨ d = n

theorem isP_of {n : Nat} (h1 : 2 < n) (ho : n % 2 = 1) (hb : n < 65536 * 65536) (hk : noDiv 15 3 n = true) : IsP n := by
  have small : ∀ d, d ∣ n → 1 < d → d < 65536 → d ≠ n → False := by
    intro d hd h1d hlt _
    obtain ⟨e, he⟩ := hd
    by_cases hpar : d % 2 = 0
    · have : n % 2 = 0 := by rw [he, Nat.mul_mod, hpar]; simp
      omega
    · have := noDiv_spec 15 3 n hk ((d - 3) / 2) (by omega)
      have e2 : 3 + 2 * ((d - 3) / 2) = d := by omega
      rw [e2, he] at this
      exact this (Nat.mul_mod_right d e)
  refine ⟨by omega, fun d hd => ?_⟩
  by_cases hd1 : d = 1
  · exact .inl hd1
  by_cases hdn : d = n
  · exact .inr hdn
  exfalso
  have hd0 : d ≠ 0 := by rintro rfl; have := Nat.zero_dvd.1 hd; omega
  by_cases hl : d < 65536
  · exact small d hd (by omega) hl hdn
  · obtain ⟨e, he⟩ := hd
    have he1 : e ≠ 1 := by rintro rfl; omega
    have he0 : e ≠ 0 := by rintro rfl; omega
    have hel : e < 65536 := by
      rcases Nat.lt_or_ge e 65536 with h | h
      · exact h
      · have := Nat.mul_le_mul (show 65536 ≤ d by omega) h
        omega
    have hen : e ≠ n := by
      intro hc
      have : 2 * e ≤ d * e := Nat.mul_le_mul_right e (by omega)
      omega
    exact small e ⟨d, by rw [Nat.mul_comm]; exact he⟩ (by omega) hel hen

theorem IsP.coprime {p a : Nat} (hp : IsP p) (h0 : a % p ≠ 0) : Nat.Coprime a p := by
  rcases hp.2 (Nat.gcd a p) (Nat.gcd_dvd_right a p) with h | h
  · exact h
  · exfalso
    have : p ∣ a := h ▸ Nat.gcd_dvd_left a p
    exact h0 (Nat.mod_eq_zero_of_dvd this)

theorem isP_P : IsP 2147483579 := isP_of (by omega) (by omega) (by omega) (by decide +kernel)
theorem isP_Q : IsP 1073741789 := isP_of (by omega) (by omega) (by omega) (by decide +kernel)

/-! ### products, modulo -/
def Z (h : Nat) (f : Nat → Int) : Int := match h with
  | 0 => 1
  | h + 1 => Z h f * f h

theorem Z_mul (f g : Nat → Int) : ∀ h, Z h (fun k => f k * g k) = Z h f * Z h g
  | 0 => rfl
  | h + 1 => by simp only [Z, Z_mul f g h]; grind
theorem Z_const (c : Int) : ∀ h, Z h (fun _ => c) = c ^ h
  | 0 => by simp [Z]
  | h + 1 => by simp only [Z, Z_const c h, Int.pow_succ]
theorem Z_congr {p : Int} {f g : Nat → Int} : ∀ h, (∀ k, k < h → f k % p = g k % p) → Z h f % p = Z h g % p
  | 0, _ => rfl
  | h + 1, hfg => by
    simp only [Z]
    rw [Int.mul_emod, Z_congr h (fun k hk => hfg k (by omega)), hfg h (by omega), ← Int.mul_emod]

def prodN (h : Nat) (f : Nat → Nat) : Nat := ((List.range h).map f).prod
theorem prodN_succ (h : Nat) (f : Nat → Nat) : prodN (h + 1) f = prodN h f * f h := by
  unfold prodN; rw [List.range_succ, List.map_append, List.prod_append]; simp
theorem Z_prodN (f : Nat → Nat) : ∀ h, Z h (fun k => (f k : Int)) = (prodN h f : Int)
  | 0 => rfl
  | h + 1 => by rw [prodN_succ, Int.natCast_mul, ← Z_prodN f h]; rfl

theorem prodN_coprime {p : Nat} (hp : IsP p) : ∀ h, h < p → Nat.Coprime (prodN h (fun k => k + 1)) p
  | 0, _ => by simp [prodN]
  | h + 1, hlt => by
    rw [prodN_succ]
    exact Nat.Coprime.mul_left (prodN_coprime hp h (by omega)) (hp.coprime (by rw [Nat.mod_eq_of_lt hlt]; omega))

theorem sign_count (q : Nat → Bool) : ∀ h, Z h (fun k => if q k then -1 else 1) = if (List.range h).countP q % 2 = 0 then 1 else -1
  | 0 => by simp [Z]
  | h + 1 => by
    rw [List.range_succ, List.countP_append]
    simp only [Z, sign_count q h, List.countP_cons, List.countP_nil]
    cases q h
    · simp
    · simp only [if_true]
      by_cases hc : (List.range h).countP q % 2 = 0
      · have : ¬ (List.countP q (List.range h) + (0 + 1)) % 2 = 0 := by omega
        rw [if_pos hc, if_neg this]; rfl
      · have : (List.countP q (List.range h) + (0 + 1)) % 2 = 0 := by omega
        rw [if_neg hc, if_pos this]; rfl

theorem emod_eq_of_dvd_sub {p a b : Int} (h : p ∣ a - b) : a % p = b % p :=
  Int.emod_eq_emod_iff_emod_sub_eq_zero.2 (Int.emod_eq_zero_of_dvd h)
theorem dvd_sub_of_emod_eq {p a b : Int} (h : a % p = b % p) : p ∣ a - b :=
  Int.dvd_of_emod_eq_zero (Int.emod_eq_emod_iff_emod_sub_eq_zero.1 h)

/-- **Gauss's lemma and Euler's criterion.** -/
theorem euler {p a : Nat} (hp : IsP p) (ho : p % 2 = 1) (ha : a % p ≠ 0) : a ^ (p / 2) % p = if jac a p then 1 else p - 1 := by
  have hc : Nat.Coprime a p := hp.coprime ha
  have hp1 : 1 < p := hp.1
  have hterm : ∀ k, k < p / 2 → ((a : Int) * ((k + 1 : Nat) : Int)) % (p : Int) = ((if decide (p / 2 < a * (k + 1) % p) then -1 else 1) * ((sg a p k + 1 : Nat) : Int)) % (p : Int) := by
    intro k hk
    have h0 := res_ne hc (show k + 1 < p by omega)
    have h1 := Nat.mod_lt (a * (k + 1)) (show 0 < p by omega)
    have hd := Nat.div_add_mod (a * (k + 1)) p
    apply emod_eq_of_dvd_sub
    have e1 : (a : Int) * ((k + 1 : Nat) : Int) = ((a * (k + 1) : Nat) : Int) := by rw [Int.natCast_mul]
    rw [e1]
    by_cases h : p / 2 < a * (k + 1) % p
    · have es : sg a p k + 1 = p - a * (k + 1) % p := by unfold sg; rw [if_pos h]; omega
      rw [es]
      simp only [h, decide_true, if_true]
      refine ⟨(a * (k + 1) / p : Nat) + 1, ?_⟩
      have e2 : ((a * (k + 1) : Nat) : Int) = (p : Int) * ((a * (k + 1) / p : Nat) : Int) + ((a * (k + 1) % p : Nat) : Int) := by
        rw [← Int.natCast_mul, ← Int.natCast_add, hd]
      rw [Int.natCast_sub (by omega)]
      rw [Int.mul_add]
      omega
    · have es : sg a p k + 1 = a * (k + 1) % p := by unfold sg; rw [if_neg h]; omega
      rw [es]
      simp only [h, decide_false, Bool.false_eq_true, if_false]
      refine ⟨(a * (k + 1) / p : Nat), ?_⟩
      have e2 : ((a * (k + 1) : Nat) : Int) = (p : Int) * ((a * (k + 1) / p : Nat) : Int) + ((a * (k + 1) % p : Nat) : Int) := by
        rw [← Int.natCast_mul, ← Int.natCast_add, hd]
      omega
  have h1 := Z_congr (p := (p : Int)) (p / 2) hterm
  rw [Z_mul (fun _ => (a : Int)) (fun k => ((k + 1 : Nat) : Int)), Z_mul (fun k => if decide (p / 2 < a * (k + 1) % p) then -1 else 1) (fun k => ((sg a p k + 1 : Nat) : Int)), Z_const,
    sign_count (fun k => decide (p / 2 < a * (k + 1) % p)), Z_prodN (fun k => k + 1), Z_prodN (fun k => sg a p k + 1)] at h1
  have hpr : prodN (p / 2) (fun k => sg a p k + 1) = prodN (p / 2) (fun k => k + 1) := by
    have := ((sg_perm ho hc).map (fun k => k + 1)).prod_nat
    rw [List.map_map] at this
    exact this
  rw [hpr] at h1
  have hF : Nat.Coprime (prodN (p / 2) (fun k => k + 1)) p := prodN_coprime hp _ (by omega)
  generalize prodN (p / 2) (fun k => k + 1) = F at *
  have hs : ∀ s : Int, ((a : Int) ^ (p / 2) * (F : Int)) % (p : Int) = (s * (F : Int)) % (p : Int) → (a : Int) ^ (p / 2) % (p : Int) = s % (p : Int) := by
    intro s hs
    apply emod_eq_of_dvd_sub
    have hd := dvd_sub_of_emod_eq hs
    rw [← Int.sub_mul] at hd
    have hn : p ∣ ((a : Int) ^ (p / 2) - s).natAbs * F := by
      have := Int.natAbs_dvd_natAbs.2 hd
      rwa [Int.natAbs_mul, Int.natAbs_natCast, Int.natAbs_natCast] at this
    have := Nat.Coprime.dvd_of_dvd_mul_right hF.symm hn
    exact Int.dvd_natAbs.1 (Int.natCast_dvd_natCast.2 this)
  have hmu : mu a p = (List.range (p / 2)).countP (fun k => decide (p / 2 < a * (k + 1) % p)) := rfl
  rw [← hmu] at h1
  have h2 := hs _ h1
  have hcast : ((a ^ (p / 2) % p : Nat) : Int) = (a : Int) ^ (p / 2) % (p : Int) := by rw [Int.natCast_emod, Int.natCast_pow]
  rw [← hcast] at h2
  unfold jac
  by_cases hm : mu a p % 2 = 0
  · rw [if_pos hm, Int.emod_eq_of_lt (by omega) (by omega)] at h2
    simp [hm]; omega
  · rw [if_neg hm] at h2
    have : (-1 : Int) % (p : Int) = p - 1 := by
      rw [show (-1 : Int) = (p - 1) + (-1) * p by omega, Int.add_mul_emod_self_right]
      exact Int.emod_eq_of_lt (by omega) (by omega)
    rw [this] at h2
    have hm1 : mu a p % 2 = 1 := by omega
    simp [hm1]; omega

end Fk

/-! The group, in plain words: elements, products, powers, numbers. -/
namespace Fk

/-- the order of the group, as an exponent -/
def qq : Nat := 1073741789
theorem qq_eq : qq = 1073741789 := rfl
def vld (x : Int) : Bool := decide (1 ≤ x) && (decide (x < 2147483579) && jac x.toNat 2147483579)
def pwr (a n : Int) : Int := ((a.toNat ^ n.toNat % 2147483579 : Nat) : Int)
def mulC (a b : Int) : Int := if vld a && vld b then a * b % 2147483579 else 0
def mulE (a b : Int) : Int := if vld a && vld b then 0 else 90
def powC (a n : Int) : Int := if vld a then pwr a (n % 1073741789) else 0
def powE (a : Int) : Int := if vld a then 0 else 90
def elC (n : Int) : Int := if 1 ≤ n ∧ n ≤ 1073741789 then (if vld n then n else 2147483579 - n) else 0
def elE (n : Int) : Int := if 1 ≤ n ∧ n ≤ 1073741789 then 0 else 1
def numC (x : Int) : Int := if vld x then (if x ≤ 1073741789 then x else 2147483579 - x) else 0
def numE (x : Int) : Int := if vld x then 0 else 90

theorem vld_lo {x : Int} (h : vld x = true) : 1 ≤ x := by simp [vld] at h; exact h.1
theorem vld_hi {x : Int} (h : vld x = true) : x < 2147483579 := by simp [vld] at h; exact h.2.1
theorem vld_jac {x : Int} (h1 : 1 ≤ x) (h2 : x < 2147483579) : vld x = jac x.toNat 2147483579 := by simp [vld, h1, h2]
theorem vld_out {x : Int} (h : ¬ (1 ≤ x ∧ x < 2147483579)) : vld x = false := by
  by_cases h1 : 1 ≤ x
  · have h2 : ¬ x < 2147483579 := fun hc => h ⟨h1, hc⟩
    simp [vld, h2]
  · simp [vld, h1]

/-! ### powers -/
def PInv (a n c x m : Nat) : Prop := c * x ^ m % 2147483579 = a ^ n % 2147483579
theorem PInv.start (a n : Nat) : PInv a n 1 a n := by simp [PInv]
theorem pow_half (x m : Nat) : x ^ m % 2147483579 = (if m % 2 = 1 then x * (x * x % 2147483579) ^ (m / 2) else (x * x % 2147483579) ^ (m / 2)) % 2147483579 := by
  have e : (x * x % 2147483579) ^ (m / 2) % 2147483579 = x ^ (2 * (m / 2)) % 2147483579 := by
    rw [← Nat.pow_mod, Nat.pow_mul, Nat.pow_two]
  by_cases h : m % 2 = 1
  · rw [if_pos h, Nat.mul_mod, e, ← Nat.mul_mod, ← Nat.pow_succ']
    congr 2; omega
  · rw [if_neg h, e]; congr 2; omega
theorem PInv.odd {a n c x m : Nat} (h : PInv a n c x m) (ho : m % 2 = 1) : PInv a n (c * x % 2147483579) (x * x % 2147483579) (m / 2) := by
  unfold PInv at *
  rw [← h, Nat.mul_mod c (x ^ m), pow_half x m, if_pos ho, Nat.mul_mod (c * x % 2147483579), Nat.mod_mod, ← Nat.mul_mod, ← Nat.mul_mod, Nat.mul_assoc]
theorem PInv.even {a n c x m : Nat} (h : PInv a n c x m) (ho : ¬ m % 2 = 1) : PInv a n c (x * x % 2147483579) (m / 2) := by
  unfold PInv at *
  rw [← h, Nat.mul_mod c (x ^ m), pow_half x m, if_neg ho, ← Nat.mul_mod]
theorem PInv.done {a n c x : Nat} (h : PInv a n c x 0) (hc : c < 2147483579) : c = a ^ n % 2147483579 := by
  unfold PInv at h
  rw [Nat.pow_zero, Nat.mul_one, Nat.mod_eq_of_lt hc] at h
  exact h

theorem pwr_nonneg (a n : Int) : 0 ≤ pwr a n := Int.natCast_nonneg _
theorem pwr_lt (a n : Int) : pwr a n < 2147483579 := by
  unfold pwr
  have := Nat.mod_lt (a.toNat ^ n.toNat) (show 0 < 2147483579 by omega)
  omega

/-- what an element is -/
theorem vld_pow {x : Int} (h1 : 1 ≤ x) (h2 : x < 2147483579) : vld x = (pwr x 1073741789 == 1) := by
  rw [vld_jac h1 h2]
  have h := euler (p := 2147483579) (a := x.toNat) isP_P (by omega) (by rw [Nat.mod_eq_of_lt (by omega)]; omega)
  have e : (2147483579 : Nat) / 2 = 1073741789 := by omega
  rw [e] at h
  unfold pwr
  have e2 : (1073741789 : Int).toNat = 1073741789 := rfl
  rw [e2, h]
  cases jac x.toNat 2147483579 <;> rfl

theorem tmod_neg {n m : Int} (hm : 0 < m) (h : n.tmod m < 0) : n.tmod m + m = n % m := by
  have h1 := Int.emod_nonneg n (show m ≠ 0 by omega)
  have h2 := Int.emod_lt_of_pos n hm
  have h3 : (m.natAbs : Int) = m := by omega
  have e := Int.tmod_eq_emod (a := n) (b := m)
  split at e <;> omega
theorem tmod_pos {n m : Int} (hm : 0 < m) (h : 0 ≤ n.tmod m) : n.tmod m = n % m := by
  have h1 := Int.emod_nonneg n (show m ≠ 0 by omega)
  have h2 := Int.emod_lt_of_pos n hm
  have h3 : (m.natAbs : Int) = m := by omega
  have e := Int.tmod_eq_emod (a := n) (b := m)
  split at e <;> omega
theorem tmod_add_mod {n m : Int} (hm : 0 < m) : (n.tmod m + m) % m = n % m := by
  have h1 := Int.emod_nonneg n (show m ≠ 0 by omega)
  have h2 := Int.emod_lt_of_pos n hm
  rcases Int.lt_or_le (n.tmod m) 0 with h | h
  · rw [tmod_neg hm h]; exact Int.emod_eq_of_lt h1 h2
  · rw [tmod_pos hm h, Int.add_emod_right]; exact Int.emod_eq_of_lt h1 h2
/-! ### the squares that an iterator yields -/
def sqList : Nat → Nat → Nat → List (Nat × Bool)
  | 0, _, _ => []
  | f + 1, a, n => if n = 0 then [] else (a, n % 2 == 1) :: sqList f (a * a % 2147483579) (n / 2)
theorem sqList_zero (f a : Nat) : sqList f a 0 = [] := by cases f <;> simp [sqList]
theorem sqList_pos {f a n : Nat} (hn : 0 < n) (hf : n ≤ f) : ∃ f', n / 2 ≤ f' ∧ sqList f a n = (a, n % 2 == 1) :: sqList f' (a * a % 2147483579) (n / 2) := by
  cases f with
  | zero => omega
  | succ f => exact ⟨f, by omega, by rw [sqList, if_neg (by omega)]⟩
/-- the product after k rounds -/
def sqProd (l : List (Nat × Bool)) : Nat := l.foldl (fun c p => if p.2 then c * p.1 % 2147483579 else c) 1
theorem sqProd_snoc (l : List (Nat × Bool)) (p : Nat × Bool) : sqProd (l ++ [p]) = if p.2 then sqProd l * p.1 % 2147483579 else sqProd l := by simp [sqProd]
theorem sqProd_lt (l : List (Nat × Bool)) : sqProd l < 2147483579 := by
  suffices h : ∀ (l : List (Nat × Bool)) (c : Nat), c < 2147483579 → l.foldl (fun c p => if p.2 then c * p.1 % 2147483579 else c) c < 2147483579 from h l 1 (by omega)
  intro l
  induction l with
  | nil => intro c hc; exact hc
  | cons p l ih =>
    intro c hc
    rw [List.foldl_cons]
    apply ih
    split
    · exact Nat.mod_lt _ (by omega)
    · exact hc
theorem sqList_lt : ∀ (f a n : Nat), a < 2147483579 → ∀ p ∈ sqList f a n, p.1 < 2147483579
  | 0, _, _, _, p, hp => by simp [sqList] at hp
  | f + 1, a, n, ha, p, hp => by
    rw [sqList] at hp
    split at hp
    · simp at hp
    · rcases List.mem_cons.1 hp with rfl | h
      · exact ha
      · exact sqList_lt f _ _ (Nat.mod_lt _ (by omega)) p h
theorem sqList_inv (a n : Nat) : ∀ (f x m c : Nat), m ≤ f → PInv a n c x m → c < 2147483579 →
    (sqList f x m).foldl (fun c p => if p.2 then c * p.1 % 2147483579 else c) c = a ^ n % 2147483579
  | 0, x, m, c, hf, h, hc => by
    obtain rfl : m = 0 := by omega
    simp [sqList]; exact h.done hc
  | f + 1, x, m, c, hf, h, hc => by
    rw [sqList]
    split
    · rename_i h0; subst h0; exact h.done hc
    · rename_i h0
      rw [List.foldl_cons]
      by_cases ho : m % 2 = 1
      · rw [if_pos (by simp [ho])]
        exact sqList_inv a n f _ _ _ (by omega) (h.odd ho) (Nat.mod_lt _ (by omega))
      · rw [if_neg (by simp [ho])]
        exact sqList_inv a n f _ _ _ (by omega) (h.even ho) hc
theorem sqProd_all (a n : Nat) : sqProd (sqList n a n) = a ^ n % 2147483579 := sqList_inv a n n a n 1 (Nat.le_refl _) (PInv.start a n) (by omega)
/-! ### powers that the kernel can reckon -/
def pmod : Nat → Nat → Nat → Nat → Nat
  | 0, _, _, c => c
  | f + 1, x, m, c => if m = 0 then c else pmod f (x * x % 2147483579) (m / 2) (if m % 2 = 1 then c * x % 2147483579 else c)
theorem pmod_inv (a n : Nat) : ∀ (f x m c : Nat), m < 2 ^ f → PInv a n c x m → c < 2147483579 → pmod f x m c = a ^ n % 2147483579
  | 0, x, m, c, hf, h, hc => by
    obtain rfl : m = 0 := by simpa using hf
    exact h.done hc
  | f + 1, x, m, c, hf, h, hc => by
    rw [pmod]
    split
    · rename_i h0; subst h0; exact h.done hc
    · have h2 : 2 ^ (f + 1) = 2 ^ f * 2 := Nat.pow_succ 2 f
      by_cases ho : m % 2 = 1
      · rw [if_pos ho]
        exact pmod_inv a n f _ _ _ (by omega) (h.odd ho) (Nat.mod_lt _ (by omega))
      · rw [if_neg ho]
        exact pmod_inv a n f _ _ _ (by omega) (h.even ho) hc
def vldK (x : Int) : Bool := decide (1 ≤ x) && (decide (x < 2147483579) && pmod 31 x.toNat 1073741789 1 == 1)
theorem vld_K (x : Int) : vld x = vldK x := by
  by_cases h : 1 ≤ x ∧ x < 2147483579
  · rw [vld_pow h.1 h.2]
    unfold pwr vldK
    rw [show (1073741789 : Int).toNat = 1073741789 from rfl, ← pmod_inv x.toNat 1073741789 31 x.toNat 1073741789 1 (by omega) (PInv.start _ _) (by omega)]
    simp only [h.1, h.2, decide_true, Bool.true_and]
    generalize pmod 31 x.toNat 1073741789 1 = r
    by_cases hr : r = 1
    · simp [hr]
    · have : ¬ (r : Int) = 1 := by omega
      rw [beq_eq_false_iff_ne.2 hr, beq_eq_false_iff_ne.2 this]
  · rw [vld_out h]
    unfold vldK
    by_cases h1 : 1 ≤ x
    · have h2 : decide (x < 2147483579) = false := by simp; omega
      rw [h2]; simp
    · have h2 : decide (1 ≤ x) = false := by simp; omega
      rw [h2]; simp
def powK (a n : Int) : Int := if vldK a then (pmod 31 a.toNat (n % 1073741789).toNat 1 : Nat) else 0
theorem pow_K (a n : Int) : powC a n = powK a n := by
  have h1 := Int.emod_nonneg n (show (1073741789 : Int) ≠ 0 by omega)
  have h2 := Int.emod_lt_of_pos n (show (0 : Int) < 1073741789 by omega)
  unfold powC powK pwr
  rw [vld_K, pmod_inv a.toNat (n % 1073741789).toNat 31 a.toNat (n % 1073741789).toNat 1 (by omega) (PInv.start _ _) (by omega)]
theorem vld_0 : vld 0 = false := by rw [vld_K]; decide +kernel
theorem vld_1 : vld 1 = true := by rw [vld_K]; decide +kernel
theorem vld_2 : vld 2 = false := by rw [vld_K]; decide +kernel
theorem vld_4 : vld 4 = true := by rw [vld_K]; decide +kernel
theorem vld_P : vld 2147483579 = false := by rw [vld_K]; decide +kernel
theorem vld_P1 : vld 2147483578 = false := by rw [vld_K]; decide +kernel
theorem vld_P2 : vld 2147483577 = true := by rw [vld_K]; decide +kernel
theorem pow_4_2 : powC 4 2 = 16 := by rw [pow_K]; decide +kernel
theorem pow_4_Q : powC 4 1073741789 = 1 := by rw [pow_K]; decide +kernel
theorem pow_4_m1 : powC 4 (-1) = 536870895 := by rw [pow_K]; decide +kernel
theorem mul_4_4 : mulC 4 4 = 16 := by simp [mulC, vld_4]
end Fk
