import Derived.Test.YthckledagggoiaaGreatDoorZFt9
import Derived.Test.YthckledagggoiaaGreatDoorChecked
import Derived.Tactics
import Derived.Tactics2
import Derived.StillTactics
import Derived.WalkKit
import Derived.Laws.Small
import Derived.Laws.StructEq
import Derived.Laws.Tables
import Derived.DeepKeys
import Derived.KernelRfl
set_option linter.unusedSimpArgs false
set_option linter.unusedVariables false
namespace Go.Proofs.YthckledagggoiaaGreatDoor
open Go.RowKit Go.Shelf Fk Sha
/-! Digests, return addresses and what is to be done with a letter are compared. -/
theorem mapM_map_some {α β : Type} {g : α → Option β} {k : α → β} : ∀ (l : List α), (∀ x ∈ l, g x = some (k x)) → l.mapM g = some (l.map k)
  | [], _ => rfl
  | x :: l, h => by rw [List.mapM_cons, h x (by simp), mapM_map_some l (fun y hy => h y (by simp [hy]))]; rfl
theorem flat_one {α β : Type} (g : α → β) : ∀ (l : List α), (l.map fun i => [g i]).flatten = l.map g
  | [] => rfl
  | x :: l => by simp [flat_one g l]
theorem bn_injF {a b : B} (h : bn a = bn b) : a = b := by
  apply BitVec.eq_of_toNat_eq
  unfold bn at h
  omega
def okN (n : Int) : Prop := -9223372036854775808 ≤ n ∧ n ≤ 9223372036854775807
theorem okN_of {n m : Int} (h : 0 ≤ n ∧ n < m) (hm : m ≤ 9223372036854775807) : okN n := by unfold okN; omega
theorem litI_wf {n : Int} (h : okN n) : (Lit.int .i64 n).wf = true := by
  have h1 : decide (IntKind.i64.min ≤ n) = true := decide_eq_true h.1
  have h2 : decide (n ≤ IntKind.i64.max) = true := decide_eq_true h.2
  simp only [Lit.wf, h1, h2, Bool.and_self]
theorem litB_wf (b : B) : (Lit.int .u8 (bn b)).wf = true := by
  have := bn_bd b
  have h1 : decide (IntKind.u8.min ≤ bn b) = true := decide_eq_true this.1
  have h2 : decide (bn b ≤ IntKind.u8.max) = true := decide_eq_true (show bn b ≤ 255 by omega)
  simp only [Lit.wf, h1, h2, Bool.and_self]
theorem klI (d : Nat) {n : Int} (h : okN n) : Tryz.prog.keyLits (d + 1) 3 [.int .i64 n] = some [.int .i64 n] := by
  unfold Program.keyLits
  simp [Tryz.underlying3, litI_wf h]
theorem klB (d : Nat) (b : B) : Tryz.prog.keyLits (d + 1) 5 [bv b] = some [.int .u8 (bn b)] := by
  unfold Program.keyLits bv
  simp [Tryz.underlying5, litB_wf b]
abbrev litD (ds : List B) : List Lit := ds.map fun b => .int .u8 (bn b)
theorem litD_inj {ds es : List B} (h : litD ds = litD es) : ds = es := by
  induction ds generalizing es with
  | nil => cases es with
    | nil => rfl
    | cons => simp at h
  | cons a l ih => cases es with
    | nil => simp at h
    | cons b m =>
      simp only [litD, List.map_cons, List.cons.injEq, Lit.int.injEq, true_and] at h
      rw [bn_injF h.1, ih h.2]
set_option maxRecDepth 100000 in
theorem klD (d : Nat) (ds : List B) (hl : ds.length = 32) : Tryz.prog.keyLits (d + 1 + 1) 34 (ds.map bv) = some (litD ds) := by
  have c0 : Tryz.prog.cellsOf 34 = 32 := by kernel_rfl
  have c1 : Tryz.prog.cellsOf 5 = 1 := by kernel_rfl
  unfold Program.keyLits
  simp only [Tryz.underlying34, c0, c1, List.length_map, hl, if_true]
  rw [mapM_map_some (k := fun i => [Lit.int .u8 (bn (ds.getD i 0))])]
  · rw [Option.map_some, flat_one]
    congr 1
    apply List.ext_getElem
    · simp [hl]
    · intro i h1 h2
      have hi : i < ds.length := by simpa using h2
      simp [List.getD_eq_getElem?_getD, List.getElem?_eq_getElem hi]
  · intro i hi
    have hi' : i < ds.length := by rw [hl]; simpa using hi
    rw [Nat.mul_one, ← List.map_drop, ← List.map_take, List.drop_eq_getElem_cons hi']
    simp only [List.take_succ_cons, List.take_zero, List.map_cons, List.map_nil]
    rw [klB, List.getD_eq_getElem?_getD, List.getElem?_eq_getElem hi']
    rfl
set_option maxRecDepth 100000 in
theorem klC (d : Nat) {a b : Int} (ha : okN a) (hb : okN b) : Tryz.prog.keyLits (d + 1 + 1) 32 [.int .i64 a, .int .i64 b] = some [.int .i64 a, .int .i64 b] := by
  have c0 : Tryz.prog.cellsOf 3 = 1 := by kernel_rfl
  have c1 : Tryz.prog.cellsOf 32 = 2 := by kernel_rfl
  unfold Program.keyLits
  simp only [Tryz.underlying32]
  rw [if_pos ⟨by rw [c1]; rfl, by kernel_rfl⟩]
  simp only [List.mapM_cons, List.mapM_nil, c0, List.drop_zero, List.drop_succ_cons, List.take_succ_cons, List.take_zero, klI d ha, klI d hb]
  rfl
set_option maxRecDepth 100000 in
theorem klH (d : Nat) {a b c : Int} (ha : okN a) (hb : okN b) (hc : okN c) : Tryz.prog.keyLits (d + 1 + 1) 30 [.int .i64 a, .int .i64 b, .int .i64 c] = some [.int .i64 a, .int .i64 b, .int .i64 c] := by
  have c0 : Tryz.prog.cellsOf 3 = 1 := by kernel_rfl
  have c1 : Tryz.prog.cellsOf 30 = 3 := by kernel_rfl
  unfold Program.keyLits
  simp only [Tryz.underlying30]
  rw [if_pos ⟨by rw [c1]; rfl, by kernel_rfl⟩]
  simp only [List.mapM_cons, List.mapM_nil, c0, List.drop_zero, List.drop_succ_cons, List.take_succ_cons, List.take_zero, klI d ha, klI d hb, klI d hc]
  rfl
abbrev litR (line key a b : Int) (ds : List B) : List Lit := [.int .i64 line, .int .i64 key, .int .i64 a, .int .i64 b] ++ litD ds
set_option maxRecDepth 100000 in
theorem klR (d : Nat) {line key a b : Int} (h0 : okN line) (h1 : okN key) (ha : okN a) (hb : okN b) (ds : List B) (hl : ds.length = 32) : Tryz.prog.keyLits (d + 1 + 1 + 1) 36 (retC line key a b (ds.map bv)) = some (litR line key a b ds) := by
  have c0 : Tryz.prog.cellsOf 3 = 1 := by kernel_rfl
  have c1 : Tryz.prog.cellsOf 32 = 2 := by kernel_rfl
  have c2 : Tryz.prog.cellsOf 34 = 32 := by kernel_rfl
  have c3 : Tryz.prog.cellsOf 36 = 36 := by kernel_rfl
  have t0 : ((retC line key a b (ds.map bv)).drop 0).take 1 = [.int .i64 line] := rfl
  have t1 : ((retC line key a b (ds.map bv)).drop 1).take 1 = [.int .i64 key] := rfl
  have t2 : ((retC line key a b (ds.map bv)).drop 2).take 2 = [.int .i64 a, .int .i64 b] := rfl
  have t3 : ((retC line key a b (ds.map bv)).drop 4).take 32 = ds.map bv := by
    rw [show (retC line key a b (ds.map bv)).drop 4 = ds.map bv from rfl, List.take_of_length_le (by rw [List.length_map, hl]; exact Nat.le_refl _)]
  unfold Program.keyLits
  simp only [Tryz.underlying36]
  rw [if_pos ⟨by rw [c3, retC_len (by rw [List.length_map, hl])], by kernel_rfl⟩]
  simp only [List.mapM_cons, List.mapM_nil, c0, c1, c2, t0, t1, t2, t3, klI (d + 1) h0, klI (d + 1) h1, klC d ha hb, klD d ds hl]
  simp [litR]
structure Fw.ok (x : Fw) : Prop where
  k : okN x.k
  p : okN x.p
  o : okN x.o
  line : okN x.line
  key : okN x.key
  a : okN x.a
  b : okN x.b
  ds : x.ds.length = 32
abbrev litF (x : Fw) : List Lit := [.int .i64 x.k, .int .i64 x.p, .int .i64 x.o] ++ litR x.line x.key x.a x.b x.ds
set_option maxRecDepth 100000 in
theorem klF (d : Nat) {x : Fw} (h : x.ok) : Tryz.prog.keyLits (d + 1 + 1 + 1 + 1) 38 x.cells = some (litF x) := by
  have c0 : Tryz.prog.cellsOf 30 = 3 := by kernel_rfl
  have c1 : Tryz.prog.cellsOf 36 = 36 := by kernel_rfl
  have c2 : Tryz.prog.cellsOf 38 = 39 := by kernel_rfl
  have hl := h.ds
  have t0 : (x.cells.drop 0).take 3 = [.int .i64 x.k, .int .i64 x.p, .int .i64 x.o] := rfl
  have t1 : (x.cells.drop 3).take 36 = retC x.line x.key x.a x.b (x.ds.map bv) := by
    rw [show x.cells.drop 3 = retC x.line x.key x.a x.b (x.ds.map bv) from rfl, List.take_of_length_le (by rw [retC_len (by rw [List.length_map, hl])]; exact Nat.le_refl _)]
  unfold Program.keyLits
  simp only [Tryz.underlying38]
  rw [if_pos ⟨by rw [c2, Fw.len hl], by kernel_rfl⟩]
  simp only [List.mapM_cons, List.mapM_nil, c0, c1, t0, t1, klH (d + 1) h.k h.p h.o, klR d h.line h.key h.a h.b x.ds hl]
  simp [litF]
set_option maxRecDepth 100000 in
theorem deepEq {t : TypeId} (m : Nat) (hm : m ≤ 10000) (hk : Tryz.prog.keyTypeAt m t = true) {cs cs' : List Value} (h1 : (Value.agg cs.toArray).formed Tryz.prog t = true) (h2 : (Value.agg cs'.toArray).formed Tryz.prog t = true) {la lb : List Lit} (ha : Tryz.prog.keyLits 10 t cs = some la) (hb : Tryz.prog.keyLits 10 t cs' = some lb) {P : Prop} [Decidable P] (hP : la = lb ↔ P) (w : World) :
    (Op.equalIn 10000 t (.agg cs.toArray) (.agg cs'.toArray)).run Tryz.prog w = .ok (decide P) w := by
  obtain ⟨r, hr, hiff⟩ := run_equalIn_deep (10000 - m) m t hk w 10 10 (.agg cs.toArray) (.agg cs'.toArray) la lb h1 h2 (by simpa [Value.cells] using ha) (by simpa [Value.cells] using hb)
  rw [show 10000 - m + m = 10000 by omega] at hr
  rw [hr]
  congr 1
  rw [Bool.eq_iff_iff, hiff, hP, decide_eq_true_eq]
set_option maxRecDepth 100000 in
theorem eqDig {ds es : List B} (h : ds.length = 32) (h' : es.length = 32) (w : World) : (Op.equalIn 10000 34 (.agg (ds.map bv).toArray) (.agg (es.map bv).toArray)).run Tryz.prog w = .ok (decide (ds = es)) w := by
  have c0 : Tryz.prog.cellsOf 34 = 32 := by kernel_rfl
  exact deepEq 10 (by decide) (by kernel_rfl) (by simp [Value.formed, Tryz.underlying34, c0, h]) (by simp [Value.formed, Tryz.underlying34, c0, h']) (klD 8 ds h) (klD 8 es h') ⟨litD_inj, fun h => by rw [h]⟩ w
theorem litR_inj {l k a b l' k' a' b' : Int} {ds ds' : List B} : litR l k a b ds = litR l' k' a' b' ds' ↔ (l = l' ∧ k = k' ∧ a = a' ∧ b = b' ∧ ds = ds') := by
  constructor
  · intro h
    simp only [litR, List.cons_append, List.nil_append, List.cons.injEq, Lit.int.injEq, true_and] at h
    exact ⟨h.1, h.2.1, h.2.2.1, h.2.2.2.1, litD_inj h.2.2.2.2⟩
  · rintro ⟨rfl, rfl, rfl, rfl, rfl⟩; rfl
set_option maxRecDepth 100000 in
theorem eqRet {l k a b l' k' a' b' : Int} {ds ds' : List B} (h : okN l ∧ okN k ∧ okN a ∧ okN b ∧ ds.length = 32) (h' : okN l' ∧ okN k' ∧ okN a' ∧ okN b' ∧ ds'.length = 32) (w : World) :
    (Op.equalIn 10000 36 (.agg (retC l k a b (ds.map bv)).toArray) (.agg (retC l' k' a' b' (ds'.map bv)).toArray)).run Tryz.prog w = .ok (decide (l = l' ∧ k = k' ∧ a = a' ∧ b = b' ∧ ds = ds')) w := by
  have c0 : Tryz.prog.cellsOf 36 = 36 := by kernel_rfl
  have e := retC_len (line := l) (key := k) (a := a) (b := b) (ds := ds.map bv) (by rw [List.length_map]; exact h.2.2.2.2)
  have e' := retC_len (line := l') (key := k') (a := a') (b := b') (ds := ds'.map bv) (by rw [List.length_map]; exact h'.2.2.2.2)
  exact deepEq 10 (by decide) (by kernel_rfl) (by simp [Value.formed, Tryz.underlying36, c0, e]) (by simp [Value.formed, Tryz.underlying36, c0, e']) (klR 7 h.1 h.2.1 h.2.2.1 h.2.2.2.1 ds h.2.2.2.2) (klR 7 h'.1 h'.2.1 h'.2.2.1 h'.2.2.2.1 ds' h'.2.2.2.2) litR_inj w
deriving instance DecidableEq for Fw
set_option maxRecDepth 100000 in
theorem eqFw {x y : Fw} (h : x.ok) (h' : y.ok) (w : World) : (Op.equalIn 10000 38 (.agg x.cells.toArray) (.agg y.cells.toArray)).run Tryz.prog w = .ok (decide (x = y)) w := by
  have c0 : Tryz.prog.cellsOf 38 = 39 := by kernel_rfl
  refine deepEq 10 (by decide) (by kernel_rfl) (by simp [Value.formed, Tryz.underlying38, c0, Fw.len h.ds]) (by simp [Value.formed, Tryz.underlying38, c0, Fw.len h'.ds]) (klF 6 h) (klF 6 h') ⟨fun e => ?_, fun e => by rw [e]⟩ w
  obtain ⟨k, p, o, l, q, a, b, ds⟩ := x
  obtain ⟨k', p', o', l', q', a', b', ds'⟩ := y
  simp only [litF, litR, List.cons_append, List.nil_append, List.cons.injEq, Lit.int.injEq, true_and] at e
  obtain ⟨rfl, rfl, rfl, rfl, rfl, rfl, rfl, e⟩ := e
  rw [litD_inj e]
end Go.Proofs.YthckledagggoiaaGreatDoor
