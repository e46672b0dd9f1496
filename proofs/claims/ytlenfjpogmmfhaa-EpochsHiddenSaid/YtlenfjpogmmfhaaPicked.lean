import Derived.Test.YtlenfjpogmmfhaaSharesP
import Derived.Test.YtlenfjpogmmfhaaLawE3
import Derived.Laws.AppendOwnNone
namespace Go.Proofs.Ytlenfjpogmmfhaa
open Go.RowKit Fk

/-- bit k of bits -/
def bitU (b : Int) (k : Nat) : Bool := bits BinOp.and IntKind.u32 (b / 2 ^ k) 1 == 1
theorem pkL_yes {B : Nat → Bool} {m : Nat} {t : Bool} {l : List Sh} {k : Nat} (h1 : B k = true) (h2 : (pkL B m t l k).length < m) :
    pkL B m t l (k + 1) = if t then l.getD k default :: pkL B m t l k else pkL B m t l k ++ [l.getD k default] := by
  rw [pkL, if_pos (by simp [h1, h2])]
theorem pkL_no1 {B : Nat → Bool} {m : Nat} {t : Bool} {l : List Sh} {k : Nat} (h1 : B k = false) : pkL B m t l (k + 1) = pkL B m t l k := by
  rw [pkL, if_neg (by simp [h1])]
theorem pkL_no2 {B : Nat → Bool} {m : Nat} {t : Bool} {l : List Sh} {k : Nat} (h2 : ¬ (pkL B m t l k).length < m) : pkL B m t l (k + 1) = pkL B m t l k := by
  rw [pkL, if_neg (by simp; omega)]
/-- a slice just built, as an owned row -/
theorem flat_one : ∀ (l : List Sh) (u : Value), u ∈ l.flatMap encSh → u.oneCell' = true := by
  intro l u hu
  obtain ⟨s, _, hs⟩ := List.mem_flatMap.1 hu
  simp only [encSh, List.mem_cons, List.not_mem_nil, or_false] at hs
  rcases hs with rfl | rfl <;> rfl
theorem owns_new (w : World) (base : Nat) (e : TypeId) (m n : Nat) (cur : Array Value) (hb : base ≤ w.heap.size) (hm : n ≤ maxLen) (hs : cur.size = n * m) :
    (w.alloc (.cells cur e)).ownsRow base e m (.slice (some ⟨w.heap.size, 0, none⟩) n n) n cur.toList :=
  ⟨by simpa using hs, .inr ⟨w.heap.size, n, cur, rfl, hb, World.alloc_heap_new w _, Nat.le_refl _, hm, hs, by rw [List.take_of_length_le]; simp [hs]⟩⟩

set_option maxHeartbeats 2000000 in
theorem picked_any (l : List Sh) (v : Value) (b : Int) (m : Int) (t : Bool) (w : World) (B0 : Nat) (hB0 : B0 ≤ w.heap.size) (hm : 0 ≤ m) (hl : l.length ≤ 24) (h : SlSh w B0 v l) :
    Calls Try.prog 38 #[v, .int .u32 b, .int .i64 m, .bool t] w fun e w' => ∃ r, e = .returned r ∧ Below w.heap.size w w' ∧ SlSh w' w'.heap.size r (pkL (bitU b) m.toNat t l l.length) := by
  have HS := Lib.hid h
  obtain ⟨hlen, A, c, rfl, _⟩ := h
  obtain ⟨i0, hi, hz0, hz1, hz2⟩ := info_parts infoSh
  go_enter Try.func38, Try.ntmps38
  go_wp2
  go_loopg [9, 10] l.length (fun g r x wr => Below w.heap.size w wr ∧ ∃ k : Nat, x = .int .i64 k ∧ k + g = l.length ∧ wr.ownsRow w.heap.size 55 2 r (pkL (bitU b) m.toNat t l k).length ((pkL (bitU b) m.toNat t l k).flatMap encSh))
  case atStart => exact ⟨Below.refl _ _, 0, rfl, by omega, by simpa [pkL] using World.ownsRow_nil w _ _ _⟩
  case round =>
    obtain ⟨hBr, k, rfl, hkg, hown⟩ := hrel
    have hzw := hBr.size
    by_cases hlt : k < l.length
    · by_cases hb : bitU b k = true
      rotate_left
      · have hb1 : (bits BinOp.and IntKind.u32 (b / 2 ^ k) 1 == 1) = false := by simpa [bitU] using hb
        have HN := Lib.hid (pkL_no1 (m := m.toNat) (t := t) (l := l) (by simpa using hb))
        clear hb
        go_wp2
        go_roundg (gk - 1)
        case measure => omega
        case rel => exact ⟨hBr, k + 1, by go_num, by omega, by rw [HN.out]; exact hown⟩
      · have hb1 : (bits BinOp.and IntKind.u32 (b / 2 ^ k) 1 == 1) = true := by simpa [bitU] using hb
        have hpl := (pk_len (bitU b) m.toNat t l k).1
        obtain ⟨n, hn⟩ : ∃ n, (pkL (bitU b) m.toNat t l k).length = n := ⟨_, rfl⟩
        obtain ⟨xs, hxs⟩ : ∃ xs, (pkL (bitU b) m.toNat t l k).flatMap encSh = xs := ⟨_, rfl⟩
        have hoc0 := flat_one (pkL (bitU b) m.toNat t l k)
        rw [hxs] at hoc0
        have HOC := Lib.hid hoc0
        clear hoc0
        rw [hn] at hown hpl
        rw [hxs] at hown
        obtain ⟨A2, c2, rfl⟩ : ∃ A2 c2, u9 = .slice A2 n c2 := by
          rcases hown.2 with ⟨h1, h2⟩ | ⟨g, cap, cur, h1, _⟩
          · exact ⟨none, 0, by rw [h1, h2]⟩
          · exact ⟨_, _, h1⟩
        by_cases hlm : (n : Int) < m
        rotate_left
        · have HN := Lib.hid (pkL_no2 (B := bitU b) (m := m.toNat) (t := t) (l := l) (k := k) (by omega))
          have HO : Hid (wr.ownsRow w.heap.size 55 2 (.slice A2 n c2) (pkL (bitU b) m.toNat t l k).length ((pkL (bitU b) m.toNat t l k).flatMap encSh)) := by
            rw [hn, hxs]; exact Lib.hid hown
          clear hb hn hxs hown
          go_wp2
          go_roundg (gk - 1)
          case measure => omega
          case rel => exact ⟨hBr, k + 1, by go_num, by omega, by rw [HN.out]; exact HO.out⟩
        · have hy := pkL_yes (t := t) (l := l) hb (by omega : (pkL (bitU b) m.toNat t l k).length < m.toNat)
          have hx : ∃ x, l.getD k default = x := ⟨_, rfl⟩
          obtain ⟨_, A', c', hv, hE0⟩ := HS.out.below (hBr.mono hB0)
          obtain ⟨bb, off, rfl, hbb, hE⟩ := hE0 (by omega)
          clear hE0
          cases hv
          have d1 := hE k hlt 0 (by omega)
          have d2 := hE k hlt 1 (by omega)
          obtain ⟨x, hx⟩ := hx
          rw [hx] at d1 d2 hy
          have d1 : wr.cell? ⟨bb, off + k * 2, none⟩ = some (.int .i64 x.a) := by simpa [encSh] using d1
          have d2 : wr.cell? ⟨bb, off + k * 2 + 1, none⟩ = some (.int .i64 x.v) := by simpa [encSh] using d2
          clear hE hb
          cases t
          · have hy2 : (pkL (bitU b) m.toNat false l (k + 1)).length = n + 1 ∧ (pkL (bitU b) m.toNat false l (k + 1)).flatMap encSh = xs ++ [.int .i64 x.a, .int .i64 x.v] := by
              rw [hy, if_neg (by simp), List.length_append, List.flatMap_append, hn, hxs]; exact ⟨rfl, rfl⟩
            have HY := Lib.hid hy2
            clear hy hy2 hx hn hxs
            go_wp2_with (at_builtin; refine wpList_append_own _ rfl _ _ 40 rfl w.heap.size 55 i0 (.agg #[.int .i64 0, .int .i64 0]) 2 16 Try.underlying40 hi hz0 hz1 hz2 rfl (by decide) _ _ _ rfl (hown.alloc _) ⟨wr.heap.size, 0, none⟩ 1 1 [.int .i64 x.a, .int .i64 x.v] rfl rfl (cell_two_new _ _ _ _) (by simp [Value.oneCell']) (by unfold maxLen; omega) (by omega) (by simp; omega) ?_; intro v' w2 hown' hgrow _)
            go_roundg (gk - 1)
            case measure => omega
            case rel =>
              refine ⟨(hBr.alloc hBr.size _).grown hgrow (by simp; omega) (fun r e => (hown.lt r e).1), k + 1, by go_num, by omega, ?_⟩
              rw [HY.out.1, HY.out.2]
              exact hown'
          · have hy2 : (pkL (bitU b) m.toNat true l (k + 1)).length = 1 + n ∧ (pkL (bitU b) m.toNat true l (k + 1)).flatMap encSh = [.int .i64 x.a, .int .i64 x.v] ++ xs := by
              rw [hy, if_pos rfl, List.length_cons, List.flatMap_cons, hn, hxs]; exact ⟨by omega, rfl⟩
            have HY := Lib.hid hy2
            clear hy hy2 hx hn hxs
            have ho1 := owns_new wr w.heap.size 55 2 1 #[.int .i64 x.a, .int .i64 x.v] hBr.size (by unfold maxLen; omega) rfl
            rcases hown.2 with ⟨h1, h2⟩ | ⟨g, cap, cur, h1, hg1, hg2, _⟩
            · cases h1
              have hxn : xs = [] := List.eq_nil_of_length_eq_zero (by have := hown.1; omega)
              subst hxn
              clear hown
              go_wp2_with (at_builtin; refine wpList_append_own_none rfl _ _ 40 rfl w.heap.size 55 i0 2 Try.underlying40 hi _ _ _ rfl ho1 rfl ?_)
              go_roundg (gk - 1)
              case measure => omega
              case rel =>
                refine ⟨hBr.alloc hBr.size _, k + 1, by go_num, by omega, ?_⟩
                rw [HY.out.1, HY.out.2]
                exact ho1
            · cases h1
              have hnews := (hown.alloc (.cells #[.int .i64 x.a, .int .i64 x.v] 55)).cells (g := g) rfl
              have hxl := hown.1
              clear hg2
              go_wp2_with (at_builtin; refine wpList_append_own _ rfl _ _ 40 rfl w.heap.size 55 i0 (.agg #[.int .i64 0, .int .i64 0]) 2 16 Try.underlying40 hi hz0 hz1 hz2 rfl (by decide) _ _ _ rfl ho1 ⟨g, 0, none⟩ n c2 xs rfl hxl hnews HOC.out (by unfold maxLen; omega) (by omega) (by simp; omega) ?_; intro v' w2 hown' hgrow _)
              go_roundg (gk - 1)
              case measure => omega
              case rel =>
                refine ⟨(hBr.alloc hBr.size _).grown hgrow (by simp; omega) (fun r e => (ho1.lt r e).1), k + 1, by go_num, by omega, ?_⟩
                rw [HY.out.1, HY.out.2]
                exact hown'
    · obtain rfl : k = l.length := by omega
      have hr : Hid (SlSh wr wr.heap.size u9 (pkL (bitU b) m.toNat t l l.length)) := own_sl hown (fun _ => rfl) rfl (by have := (pk_len (bitU b) m.toNat t l l.length).1; omega)
      clear hown
      go_wp2
      go_ret
      exact ⟨_, rfl, hBr, hr.out⟩
end Go.Proofs.Ytlenfjpogmmfhaa
