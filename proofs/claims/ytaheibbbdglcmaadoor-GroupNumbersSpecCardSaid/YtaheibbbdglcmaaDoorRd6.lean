import Derived.Test.YtaheibbbdglcmaaDoorRd5
import Derived.Test.YtaheibbbdglcmaaDoorDg6
namespace Go.Proofs.YtaheibbbdglcmaaDoor
open Go.RowKit Fk Sha
/-! The reference's hashes under a tag, and numbers from hashes. -/
set_option maxRecDepth 100000 in
set_option maxHeartbeats 2000000 in
theorem reftagged_any (s : ByteArray) (l : List B) (v : Value) (w : World) (h : SlB w w.heap.size v l) (hc : capB v) (hl : l.length ≤ 1099511627000) (hs : s.size ≤ 1099511627000) :
    Calls Tryd.prog 38 #[.string s, v] w fun e w' => e = .returned (.agg ((tagged (sb s) l).map bv).toArray) ∧ Below w.heap.size w w' := by
  have HS := Lib.hid h
  have HC := Lib.hid hc
  obtain ⟨A, n, c, rfl, _⟩ := hc
  obtain rfl : n = l.length := by obtain ⟨_, _, _, hv, _⟩ := h; injection hv
  clear h
  go_enter Tryd.func38, Tryd.ntmps38
  go_upto_region 1 with (fail)
  obtain ⟨W0, hW0⟩ : ∃ W0 : World, w.alloc (.cells (List.replicate 32 (Value.int IntKind.u8 0)).toArray 30) = W0 := ⟨_, rfl⟩
  have hD0 : Row W0 w.heap.size 30 (List.replicate 32 (.int .u8 0)) := by rw [← hW0]; exact Row.new w _ _
  have hB0 : Below w.heap.size w W0 := by rw [← hW0]; exact (Below.refl _ w).alloc (Nat.le_refl _) _
  have hz0 : W0.heap.size = w.heap.size + 1 := by rw [← hW0]; simp
  refine (show _ = W0 from hW0) ▸ ?_
  clear hW0
  obtain ⟨V, W1, hrun, hV, hcV, hb1⟩ := str_conv s W0 hs
  have hD1 := Row.keep hD0 (hb1.block _ (by omega))
  have hB1 := hB0.trans (hb1.mono (by omega))
  have hs1 := refsum_any (sb s) V W1 hV hcV (by rw [sb_length]; omega)
  have hst := fun W => store32 (sum (sb s)) (sum_length _) W
  have HS1 := Lib.hid hs1
  clear hs1 hV hcV hD0 hB0
  go_upto_region 2 with (go_at_call 67; (with_reducible refine HS1.out.mono ?_); rintro e W2 ⟨rfl, hb2⟩)
  have hB2 := hB1.trans (hb2.mono hB1.size)
  have hD2 := Row.keep hD1 (hb2.block _ (Row.lt hD1))
  have hz2' := Row.lt hD2
  obtain ⟨W3, hW3⟩ : ∃ W3 : World, W2.alloc (.cells ((sum (sb s)).map bv).toArray 30) = W3 := ⟨_, rfl⟩
  have hB3 : Below w.heap.size w W3 := by rw [← hW3]; exact hB2.alloc hB2.size _
  have hD3 : Row W3 w.heap.size 30 (List.replicate 32 (.int .u8 0)) := by rw [← hW3]; exact Row.alloc hD2 _
  have hT3 : Row W3 W2.heap.size 30 ((sum (sb s)).map bv) := by rw [← hW3]; exact Row.new W2 _ _
  have hz3 : W3.heap.size = W2.heap.size + 1 := by rw [← hW3]; simp
  have hsl : SlB W3 W3.heap.size (.slice (some ⟨W2.heap.size, 0, none⟩) 32 32) (sum (sb s)) := by
    have := Row.sl (c := 32) (m := 1) (enc := encB) (l := sum (sb s)) (by rw [flat_b]; exact hT3) (fun _ => rfl) (by rw [sum_length]; omega) (show W2.heap.size < W3.heap.size by omega)
    rwa [sum_length] at this
  rw [hW3]
  have hsl1 := hsl.below ((Below.refl W3.heap.size W3).alloc (Nat.le_refl _) (.cells #[] 5))
  have hcap1 : capB (.slice (some ⟨W2.heap.size, 0, none⟩) 32 32) := ⟨_, _, _, rfl, Nat.le_refl _, by omega, fun h => by cases h⟩
  have HSL := Lib.hid hsl1
  have ho := own_emptyB W3
  rw [hz3] at ho
  have HO := Lib.hid ho
  have HB3 := Lib.hid hB3
  have HD3 := Lib.hid hD3
  have hlen32 := sum_length (sb s)
  have HLEN := Lib.hid hlen32
  clear hsl hsl1 hT3 hW3 hD1 hB1 hb1 hb2 hD2 hB2 hst HS1 hD3 hB3 hlen32
  clear ho
  go_wp2_with (first
    | (at_builtin; refine wpList_app rfl _ _ rfl (W2.heap.size + 1) _ 0 [] rfl HO.out _ rfl (sum (sb s)) _ HSL.out hcap1 (by rw [HLEN.out]; omega) (by simp; omega) ?_; intro v1 w4 hown4 hg4; have hB4 := (HB3.out.alloc HB3.out.size _).grown hg4 (by have := HB3.out.size; simp; omega) (fun r e => by have := (HO.out.lt r e).1; have := HB3.out.size; omega); have hsl2 := HS.out.below hB4; have HO4 := Lib.hid hown4; have HSL4 := Lib.hid hsl2; have HB4 := Lib.hid hB4; have hW4 : W2.heap.size + 1 ≤ w4.heap.size := (by have := hg4.size; simp at this; omega); have hD4 := Row.keep HD3.out (show w4.heap[w.heap.size]? = W3.heap[w.heap.size]? from (hg4.block _ (by simp; omega) (fun e => by have := (HO.out.lt _ e.symm).1; omega)).trans (Below.heap_alloc W3 _ _ (by omega))); have HD4 := Lib.hid hD4; clear hown4 hsl2 hB4 hg4 hD4)
    | (at_builtin; refine wpList_app rfl _ _ rfl (W2.heap.size + 1) v1 (0 + (sum (sb s)).length) ([] ++ sum (sb s)) rfl HO4.out _ rfl l _ HSL4.out HC.out (by rw [HLEN.out]; omega) hW4 ?_; intro v2 w5 hown5 hg5; have hB5 := HB4.out.grown hg5 HB4.out.size (fun r e => by have := (HO4.out.lt r e).1; omega); have hD5 := Row.keep HD4.out (hg5.block _ (Row.lt HD4.out) (fun e => by have := (HO4.out.lt _ e.symm).1; omega)); have hq := own_slB hown5 (by simp only [List.nil_append, List.length_append]; omega) (by simp only [List.nil_append, List.length_append]; rw [HLEN.out]; omega); have hs5 := refsum_any ([] ++ sum (sb s) ++ l) v2 w5 hq.1 hq.2 (by simp only [List.nil_append, List.length_append]; rw [HLEN.out]; omega); rw [List.nil_append] at hs5; have HS5 := Lib.hid hs5; have HB5 := Lib.hid hB5; have HD5 := Lib.hid hD5; clear hs5 hq hown5 hg5 hB5 hD5))
  refine HS5.out.mono ?_
  rintro e W6 ⟨rfl, hb6⟩
  have hB6 := HB5.out.trans (hb6.mono HB5.out.size)
  have hD6 := Row.keep HD5.out (hb6.block _ (Row.lt HD5.out))
  have hst6 := store_old (sum (sum (sb s) ++ l)) (sum_length _) hD6
  have hR6 : Row (W6.setRow w.heap.size ((sum (sum (sb s) ++ l)).map bv).toArray) w.heap.size 30 ((sum (sum (sb s) ++ l)).map bv) := setRow_heap W6 _ _ _ _ _ hD6
  have hB7 := below_setRow hB6 (Nat.le_refl _) ((sum (sum (sb s) ++ l)).map bv).toArray
  generalize W6.setRow w.heap.size ((sum (sum (sb s) ++ l)).map bv).toArray = W7 at *
  have HR6 := Lib.hid hR6
  have HB6 := Lib.hid hB7
  clear hb6 hB6 hD6 hR6 hB7 hrun hz0 hz3 HS5 HO HSL HB3 HD3 HLEN HO4 HSL4 HB4 hW4 HD4 HB5 HD5 hcap1
  have hdl : (sum (sum (sb s) ++ l)).length = 32 := sum_length _
  have hres : tagged (sb s) l = sum (sum (sb s) ++ l) := rfl
  generalize sum (sum (sb s) ++ l) = D at *
  generalize sum (sb s) = D2 at *
  have HRES := Lib.hid hres
  clear hres
  go_wp2_with fail
  have hinf : (Tryd.prog.info? 30).map (·.size) = some 32 := by kernel_rfl
  exact bodyPost_ret (v := .agg (D.map bv).toArray) (results_cell_row (g := w.heap.size) (t := 30) (fr := (0, 0)) rfl _ _ _ _ rfl HR6.out Tryd.underlying30 rfl (by rw [hinf]; simp [hdl])) rfl ⟨by rw [HRES.out], HB6.out⟩
end Go.Proofs.YtaheibbbdglcmaaDoor
