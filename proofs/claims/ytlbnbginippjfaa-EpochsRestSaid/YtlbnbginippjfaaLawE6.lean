import Derived.Test.YtlbnbginippjfaaSaneW47b
import Derived.Test.YtlbnbginippjfaaRst1
import Derived.RegionTactic
import Derived.Deep.RegionWith
import Derived.ChangeAlike
import Derived.BigRegion
import Derived.Deep.Cut
import Derived.Deep.CutRange
import Derived.Deep.RegionHeld3
import Derived.Deep.QuietTactic
import Derived.BigQuiet
set_option linter.unusedSimpArgs false
set_option linter.unusedVariables false
namespace Go.Proofs.Ytlbnbginippjfaa
open Go.RowKit Fk
/-- the state: the words and the random numbers in the first two blocks, what was made later lies at B or above -/
structure RI (w : World) (B : Nat) (t r : Tr) (W : World) : Prop where
  z : w.heap.size + 2 ≤ B
  sz : B ≤ W.heap.size
  b : Below w.heap.size w W
  p0 : Row W w.heap.size 30 t.cells
  p1 : Row W (w.heap.size + 1) 29 r.cells
theorem RI.below {w W W' : World} {B : Nat} {t r : Tr} (h : RI w B t r W) (hb : Below W.heap.size W W') : RI w B t r W' :=
  ⟨h.z, Nat.le_trans h.sz hb.size, h.b.trans (hb.mono h.b.size), h.p0.below hb h.p0.lt, h.p1.below hb h.p1.lt⟩
theorem RI.below2 {w W W' : World} {B : Nat} {t r : Tr} (h : RI w B t r W) (hb : Below W.heap.size W W') : RI w B t r W' := h.below hb
theorem RI.alloc {w W : World} {B : Nat} {t r : Tr} (h : RI w B t r W) (o : Obj) : RI w B t r (W.alloc o) := h.below ((Below.refl _ _).alloc (Nat.le_refl _) o)
theorem RI.grown {w W W' : World} {B : Nat} {t r : Tr} (h : RI w B t r W) {row : Option Nat} (hg : W.grownBy W' row) (hB : ∀ g, row = some g → B ≤ g) : RI w B t r W' := by
  have hz := h.z
  have hs := h.sz
  refine ⟨h.z, Nat.le_trans h.sz hg.size, h.b.grown hg h.b.size (fun r e => ?_), ?_, ?_⟩
  · have := hB r e; omega
  · exact h.p0.keep (hg.block _ h.p0.lt (fun e => by have := hB _ e.symm; omega))
  · exact h.p1.keep (hg.block _ h.p1.lt (fun e => by have := hB _ e.symm; omega))
structure SI (w : World) (B : Nat) (t r : Tr) (G : Nat) (D : Se) (W : World) : Prop where
  i : RI w B t r W
  g : B ≤ G
  row : Row W G 34 D.cells
theorem SI.below {w W W' : World} {B G : Nat} {t r : Tr} {D : Se} (h : SI w B t r G D W) (hb : Below W.heap.size W W') : SI w B t r G D W' :=
  ⟨h.i.below hb, h.g, h.row.below hb h.row.lt⟩
theorem SI.of {w W W' : World} {B G : Nat} {t r : Tr} {D : Se} (h : SI w B t r G D W) (hB' : Below w.heap.size w W') (hk : ∀ g t' vs, Row W g t' vs → Row W' g t' vs) : SI w B t r G D W' := by
  have hr := hk _ _ _ h.row
  have := hr.lt
  have := h.g
  exact ⟨⟨h.i.z, by omega, hB', hk _ _ _ h.i.p0, hk _ _ _ h.i.p1⟩, h.g, hr⟩
theorem SI.put {w W : World} {B G : Nat} {t r : Tr} {S : Se} (h : SI w B t r G S W) (D : Se) :
    SI w B t r G D ((((((W.setCell ⟨G, 0, none⟩ (.int .i64 D.x.a)).setCell ⟨G, 1, none⟩ (.int .i64 D.x.b)).setCell ⟨G, 2, none⟩ (.int .i64 D.y.a)).setCell ⟨G, 3, none⟩ (.int .i64 D.y.b)).setCell ⟨G, 4, none⟩ (.int .i64 D.z.a)).setCell ⟨G, 5, none⟩ (.int .i64 D.z.b)) := by
  have hg := h.g
  have hz1 := h.i.z
  have hz : w.heap.size ≤ G := by omega
  have hl : w.heap.size ≠ G := by omega
  have hl1 : w.heap.size + 1 ≠ G := by omega
  refine ⟨⟨h.i.z, ?_, (((((h.i.b.setCell hz _).setCell hz _).setCell hz _).setCell hz _).setCell hz _).setCell hz _, ?_, ?_⟩, h.g, ?_⟩
  · have := h.i.sz
    simpa [World.setCell] using this
  · exact Row.oth (Row.oth (Row.oth (Row.oth (Row.oth (Row.oth h.i.p0 hl _) hl _) hl _) hl _) hl _) hl _
  · exact Row.oth (Row.oth (Row.oth (Row.oth (Row.oth (Row.oth h.i.p1 hl1 _) hl1 _) hl1 _) hl1 _) hl1 _) hl1 _
  · exact Row.store (Row.store (Row.store (Row.store (Row.store (Row.store h.row 0 _) 1 _) 2 _) 3 _) 4 _) 5 _
theorem SI.new {w W W' : World} {B G : Nat} {t r : Tr} {D : Se} (h : RI w B t r W) (hG : W.heap.size ≤ G)
    (f : Below w.heap.size w W' ∧ (∀ g t' vs, Row W g t' vs → Row W' g t' vs) ∧ Row W' G 34 D.cells) : SI w B t r G D W' := by
  have := f.2.2.lt
  have := h.sz
  exact ⟨⟨h.z, by omega, f.1, f.2.1 _ _ _ h.p0, f.2.1 _ _ _ h.p1⟩, by omega, f.2.2⟩
theorem SI.two {w W W' : World} {B G G2 : Nat} {t r : Tr} {S D : Se} (h : SI w B t r G S W) (hG : W.heap.size ≤ G2)
    (f : Below w.heap.size w W' ∧ (∀ g t' vs, Row W g t' vs → Row W' g t' vs) ∧ Row W' G2 34 D.cells) : SI w B t r G S W' ∧ G ≠ G2 ∧ Row W' G2 34 D.cells := by
  have := h.row.lt
  exact ⟨h.of f.1 f.2.1, by omega, f.2.2⟩
abbrev K7 (W : World) (p1 p2 p3 p4 p5 p6 p7 : Addr) (v1 v2 v3 v4 v5 v6 v7 : Value) (w' : World) : Prop := Below W.heap.size W w' ∧ w'.cell? p1 = some v1 ∧ w'.cell? p2 = some v2 ∧ w'.cell? p3 = some v3 ∧ w'.cell? p4 = some v4 ∧ w'.cell? p5 = some v5 ∧ w'.cell? p6 = some v6 ∧ w'.cell? p7 = some v7
section
variable {W : World} {p1 p2 p3 p4 p5 p6 p7 : Addr} {v1 v2 v3 v4 v5 v6 v7 : Value} (b1 : p1.block < W.heap.size) (b2 : p2.block < W.heap.size) (b3 : p3.block < W.heap.size) (b4 : p4.block < W.heap.size) (b5 : p5.block < W.heap.size) (b6 : p6.block < W.heap.size) (b7 : p7.block < W.heap.size)
include b1 b2 b3 b4 b5 b6 b7
theorem K7.step {w' w2 : World} (h : K7 W p1 p2 p3 p4 p5 p6 p7 v1 v2 v3 v4 v5 v6 v7 w') (hb : Below w'.heap.size w' w2) : K7 W p1 p2 p3 p4 p5 p6 p7 v1 v2 v3 v4 v5 v6 v7 w2 := by
  obtain ⟨h0, h1, h2, h3, h4, h5, h6, h7⟩ := h
  have hz := h0.size
  exact ⟨h0.trans (hb.mono hz), (hb.cell (by omega)).trans h1, (hb.cell (by omega)).trans h2, (hb.cell (by omega)).trans h3, (hb.cell (by omega)).trans h4, (hb.cell (by omega)).trans h5, (hb.cell (by omega)).trans h6, (hb.cell (by omega)).trans h7⟩
theorem K7.stepb {w' w2 : World} (hb : Below w'.heap.size w' w2) (h : K7 W p1 p2 p3 p4 p5 p6 p7 v1 v2 v3 v4 v5 v6 v7 w') : K7 W p1 p2 p3 p4 p5 p6 p7 v1 v2 v3 v4 v5 v6 v7 w2 := K7.step b1 b2 b3 b4 b5 b6 b7 h hb
theorem K7.stepa {w' : World} {o : Obj} (h : K7 W p1 p2 p3 p4 p5 p6 p7 v1 v2 v3 v4 v5 v6 v7 w') : K7 W p1 p2 p3 p4 p5 p6 p7 v1 v2 v3 v4 v5 v6 v7 (w'.alloc o) := K7.step b1 b2 b3 b4 b5 b6 b7 h ((Below.refl _ _).alloc (Nat.le_refl _) o)
theorem K7.stepc {w' : World} {o : Obj} (h : K7 W p1 p2 p3 p4 p5 p6 p7 v1 v2 v3 v4 v5 v6 v7 w'.drew) : K7 W p1 p2 p3 p4 p5 p6 p7 v1 v2 v3 v4 v5 v6 v7 (w'.alloc o).drew := K7.stepa b1 b2 b3 b4 b5 b6 b7 h
end
theorem set6 {n G : Nat} {W W' : World} {a0 a1 a2 a3 a4 a5 : Value} (hz : n ≤ G) (h : Below n W W') : Below n W ((((((W'.setCell ⟨G, 0, none⟩ a0).setCell ⟨G, 1, none⟩ a1).setCell ⟨G, 2, none⟩ a2).setCell ⟨G, 3, none⟩ a3).setCell ⟨G, 4, none⟩ a4).setCell ⟨G, 5, none⟩ a5) :=
  (((((h.setCell hz _).setCell hz _).setCell hz _).setCell hz _).setCell hz _).setCell hz _
set_option maxRecDepth 100000 in
set_option maxHeartbeats 4000000 in
theorem rest_few (l : List Int) (A0 : Option Addr) (c : Nat) (t r : Tr) (n : Int) (w : World) (h : ¬ (1 ≤ l.length ∧ l.length ≤ 6)) :
    Calls Try.prog 10 #[.slice A0 l.length c, t.val, r.val, .int .u8 n] w fun e w' => e = .returned (.bool true) ∧ Below w.heap.size w w' := by
  unfold Tr.val
  by_cases h0 : l.length = 0
  · go_enter Try.func10, Try.ntmps10
    go_wp2_with (go_at_call 33; (with_reducible refine (sane47 _).mono ?_); rintro e w1 ⟨rfl, hb⟩; obtain ⟨hB, hz, p0, p1⟩ := stepP2 hb; clear hb)
    go_ret
    exact ⟨rfl, hB⟩
  · have h6 : 6 < l.length := by omega
    go_enter Try.func10, Try.ntmps10
    go_wp2_with (go_at_call 33; (with_reducible refine (sane47 _).mono ?_); rintro e w1 ⟨rfl, hb⟩; obtain ⟨hB, hz, p0, p1⟩ := stepP2 hb; clear hb)
    go_ret
    exact ⟨rfl, hB⟩
end Go.Proofs.Ytlbnbginippjfaa
