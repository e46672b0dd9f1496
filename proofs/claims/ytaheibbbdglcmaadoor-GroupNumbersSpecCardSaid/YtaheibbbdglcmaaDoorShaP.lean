import Derived.Test.YtaheibbbdglcmaaDoorDg2
/-! The end of the bytes: what is laid into the last blocks. -/
namespace Go.Proofs.YtaheibbbdglcmaaDoor
open Go.RowKit Fk Sha
theorem run_pad (s : St) (l : List B) : ∀ k, 64 * k ≤ l.length → run s (padL l) k = run s l k
  | 0, _ => rfl
  | k + 1, h => by
    have e : ((padL l).drop (64 * k)).take 64 = (l.drop (64 * k)).take 64 := by
      unfold padL
      rw [List.drop_append_of_le_length (by omega), List.take_append_of_le_length (by simp; omega)]
    show absorb (run s (padL l) k) _ = absorb (run s l k) _
    rw [run_pad s l k (by omega), e]
/-- the bytes behind k blocks, with their end -/
def tailP (l : List B) (k : Nat) : List B := (padL l).drop (64 * k)
theorem tail_eq {l : List B} {k n : Nat} (h : n + 64 * k = l.length) (hn : n < 64) :
    tailP l k = l.drop (64 * k) ++ 0x80#8 :: (List.replicate (if n ≤ 55 then 55 - n else 119 - n) 0#8 ++ be 8 (8 * l.length % 2 ^ 64)) := by
  unfold tailP padL zeros
  rw [List.drop_append_of_le_length (by omega)]
  congr 4
  split <;> omega
theorem tail_length {l : List B} {k n : Nat} (h : n + 64 * k = l.length) (hn : n < 64) : (tailP l k).length = if n ≤ 55 then 64 else 128 := by
  rw [tail_eq h hn]; simp [be_length]; split <;> omega
theorem sum_small {l : List B} {k n : Nat} (h : n + 64 * k = l.length) (hn : n ≤ 55) : sum l = out (absorb (run startS l k) ((tailP l k).take 64)) := by
  have e : (padL l).length / 64 = k + 1 := by
    rw [(padL_blocks l).2, if_pos (by omega)]; omega
  unfold sum
  rw [e]
  show out (absorb (run startS (padL l) k) _) = _
  rw [run_pad _ _ _ (by omega)]; rfl
theorem sum_big {l : List B} {k n : Nat} (h : n + 64 * k = l.length) (hn : 55 < n) (hn2 : n < 64) : sum l = out (absorb (absorb (run startS l k) ((tailP l k).take 64)) (((tailP l k).drop 64).take 64)) := by
  have e : (padL l).length / 64 = k + 2 := by
    rw [(padL_blocks l).2, if_neg (by omega)]; omega
  unfold sum
  rw [e]
  show out (absorb (absorb (run startS (padL l) k) _) _) = _
  rw [run_pad _ _ _ (by omega)]
  congr 2
  unfold tailP
  rw [List.drop_drop]; rfl
theorem putTo_all {n off x : Nat} {vs : List Value} : putTo n off x n vs = vs.take off ++ ((be n x).map bv ++ vs.drop (off + n)) := by
  unfold putTo; simp
theorem endRow {l : List B} {k n : Nat} (h : n + 64 * k = l.length) (hn : n < 64) (L : Nat) (hL : L = if n ≤ 55 then 64 else 128) :
    putTo 8 (L - 8) (8 * l.length % 2 ^ 64) 8 (((l.drop (64 * k)).map bv ++ List.replicate (128 - n) (bv 0#8)).set n (bv 0x80#8)) = (tailP l k).map bv ++ List.replicate (128 - L) (bv 0#8) := by
  have hlen : (l.drop (64 * k)).length = n := by simp; omega
  rw [putTo_all, tail_eq h hn]
  have e0 : ((l.drop (64 * k)).map bv ++ List.replicate (128 - n) (bv 0#8)).set n (bv 0x80#8) = (l.drop (64 * k)).map bv ++ (bv 0x80#8 :: List.replicate (127 - n) (bv 0#8)) := by
    rw [List.set_append_right _ _ (by simp; omega), List.length_map, hlen, Nat.sub_self, show 128 - n = (127 - n) + 1 by omega, List.replicate_succ]; rfl
  rw [e0, List.map_append]
  obtain ⟨cs, hcs⟩ : ∃ cs, (l.drop (64 * k)).map bv = cs := ⟨_, rfl⟩
  have hcl : cs.length = n := by rw [← hcs, List.length_map, hlen]
  rw [hcs]
  have g1 : n ≤ L - 8 := by rw [hL]; split <;> omega
  have g2 : n ≤ L - 8 + 8 := by omega
  rw [List.take_append, List.drop_append, List.take_of_length_le (by omega), List.drop_of_length_le (by omega), hcl, List.append_assoc, List.append_assoc]
  congr 1
  obtain ⟨a, ha⟩ : ∃ a, L - 8 - n = a + 1 := ⟨L - 8 - n - 1, by rw [hL]; split <;> omega⟩
  obtain ⟨b, hb⟩ : ∃ b, L - 8 + 8 - n = b + 1 := ⟨L - 8 + 8 - n - 1, by rw [hL]; split <;> omega⟩
  rw [ha, hb, List.take_succ_cons, List.drop_succ_cons, List.take_replicate, List.drop_replicate]
  have h1 : min a (127 - n) = if n ≤ 55 then 55 - n else 119 - n := by rw [hL] at ha; split at ha <;> (split <;> omega)
  have h2 : 127 - n - b = 128 - L := by
    by_cases h5 : n ≤ 55
    · rw [if_pos h5] at hL; omega
    · rw [if_neg h5] at hL; omega
  rw [h1, h2]
  simp [List.map_replicate]
/-- the hash's words, the first k laid as bytes -/
def outTo (s : St) (k : Nat) : List Value := ((s.list.take k).flatMap fun x => (be 4 x.toNat).map bv) ++ List.replicate (32 - 4 * k) (bv 0#8)
theorem outTo_zero (s : St) : outTo s 0 = List.replicate 32 (.int .u8 0) := rfl
theorem outTo_eight (s : St) : outTo s 8 = (out s).map bv := by
  unfold outTo out
  simp [St.list]
theorem be_four (x : Nat) : ∃ a b c d, be 4 x = [a, b, c, d] := ⟨_, _, _, _, rfl⟩
theorem outTo_put (s : St) {k : Nat} (h : k < 8) : putTo 4 (4 * k) (s.list.getD k 0).toNat 4 (outTo s k) = outTo s (k + 1) := by
  have hlen : ∀ t : List W, (t.flatMap fun x => (be 4 x.toNat).map bv).length = 4 * t.length := by
    intro t
    induction t with
    | nil => rfl
    | cons x t ih => rw [List.flatMap_cons, List.length_append, ih]; simp [be_length]; omega
  have hk : (s.list.take k).length = k := by simp [St.list]; omega
  rw [putTo_all]
  unfold outTo
  have e : s.list.take (k + 1) = s.list.take k ++ [s.list.getD k 0] := by
    rw [List.take_succ_eq_append_getElem (by simpa [St.list] using h), List.getD_eq_getElem?_getD, List.getElem?_eq_getElem (by simpa [St.list] using h)]; rfl
  rw [e, List.flatMap_append, List.take_left' (by rw [hlen, hk]), List.drop_append, hlen, hk, List.drop_of_length_le (by rw [hlen, hk]; omega), List.drop_replicate]
  rw [show 32 - 4 * k - (4 * k + 4 - 4 * k) = 32 - 4 * (k + 1) by omega]
  simp
end Go.Proofs.YtaheibbbdglcmaaDoor
