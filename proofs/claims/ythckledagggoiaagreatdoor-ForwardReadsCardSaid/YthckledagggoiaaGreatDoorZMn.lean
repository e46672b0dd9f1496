import Derived.Test.YthckledagggoiaaGreatDoorZFtB
set_option linter.unusedSimpArgs false
set_option linter.unusedVariables false
namespace Go.Proofs.YthckledagggoiaaGreatDoor
open Go.RowKit Go.Shelf Fk Sha
/-! forward.Next: where it ends. -/
set_option maxRecDepth 100000 in
set_option maxHeartbeats 4000000 in
theorem next_tt (l : List Lx) (n : Int) (A : Option Addr) (c : Nat) (keys : List Int) (Ak : Option Addr) (ck : Nat) (s : Int) (en : List En) (Ae : Option Addr) (ce : Nat) (people office al day time r : Int) (w : World) (hT : TabOK w) (hl : SlX w w.heap.size (.slice A l.length c) l) (hk : SlI w w.heap.size (.slice Ak keys.length ck) keys) (he : SlE w w.heap.size (.slice Ae en.length ce) en) (E : Int) (hE : ttE l n = E) (h0 : E ≠ 0) :
    Calls Tryz.prog 11 #[ttV n (.slice A l.length c), .slice Ak keys.length ck, .int .i64 s, .slice Ae en.length ce, .int .i64 people, .int .i64 office, .int .i64 al, .int .i64 day, .int .i64 time, .int .i64 r] w fun e w' => e = .returned (fwV zeroF E) ∧ Below w.heap.size w w' := by
  have htt := fun (W : World) (hb : Below w.heap.size w W) => tt_any l n (.slice A l.length c) W (hl.below hb)
  rw [hE] at htt
  have TT := Lib.hid htt
  have MB := Lib.hid (fun W => must_bad E h0 W)
  clear htt hE h0 hT hl hk he
  go_enter_defers Tryz.func11, Tryz.ntmps11
  go_upto_region 1 with fail
  have hS := nx_start w n (.slice A l.length c) office
  obtain ⟨W, hW⟩ : ∃ W, ((((w.alloc (.cells #[.int .i64 n, .slice A l.length c] 24)).alloc (.cells #[.int .i64 office] 3)).alloc (.cells zeroF.cells.toArray 38)).alloc (.cells #[.int .i64 0] 39)) = W := ⟨_, rfl⟩
  rw [hW] at hS
  refine (show _ = W from hW) ▸ ?_
  clear hW
  obtain ⟨⟨t0, t1, o0⟩, ⟨x0, x1, x2⟩, ee, ⟨fx0, fx1, fx2, fe⟩, hz⟩ := hS.facts (a := 0) (b := 0) (c := 0) rfl rfl rfl
  have hmf : ∀ (fn : Fn) (first cap : Array Value) (w : World), (Instr.makeFunc fn first cap).run Tryz.prog w = .ok (.func fn first cap) w := fun _ _ _ _ => rfl
  go_wp2_with (first
    | (go_at_call 38; (with_reducible refine (TT.out _ hS.bel).mono ?_); rintro e w1 ⟨rfl, hb⟩; replace hS := hS.below hb; clear hb; clear t0 t1 o0 x0 x1 x2 ee fx0 fx1 fx2 fe hz; obtain ⟨⟨t0, t1, o0⟩, ⟨x0, x1, x2⟩, ee, ⟨fx0, fx1, fx2, fe⟩, hz⟩ := hS.facts (a := 0) (b := 0) (c := 0) rfl rfl rfl)
    | (go_at_call 37; (with_reducible refine (MB.out _).mono ?_); rintro e wm ⟨rfl, rfl⟩))
  refine leaves_cons (f := 36) (args := #[.pointer (some ⟨w.heap.size + 2, 0, none⟩), .pointer (some ⟨w.heap.size + 3, 0, none⟩)]) (by simp) (by simp [go_sem]) ?_
  refine (next1_panic (w.heap.size + 2) (w.heap.size + 3) _ _ E (Fw.len (by simp [homeF, zeroF, zeroD])) _ hS.2.2.2.1 hS.2.2.2.2 (by omega) w.heap.size (by omega)).mono ?_
  rintro e u' w'' ⟨rfl, rfl, hb, q1, q2⟩
  have hB := hS.1.trans hb
  exact leaves_end (ret_next _ _ (w.heap.size + 2) (zeroF.cells) E (Fw.len (by simp [zeroF, zeroD])) rfl rfl q1 q2) ⟨rfl, hB⟩
set_option maxRecDepth 100000 in
set_option maxHeartbeats 4000000 in
theorem next_chk (l : List Lx) (n : Int) (A : Option Addr) (c : Nat) (keys : List Int) (Ak : Option Addr) (ck : Nat) (s : Int) (en : List En) (Ae : Option Addr) (ce : Nat) (people office al day time r : Int) (w : World) (hT : TabOK w) (hl : SlX w w.heap.size (.slice A l.length c) l) (hk : SlI w w.heap.size (.slice Ak keys.length ck) keys) (he : SlE w w.heap.size (.slice Ae en.length ce) en) (ht0 : ttE l n = 0) (E : Int) (hc0 : chkK l keys s people office = E) (h0 : E ≠ 0) :
    Calls Tryz.prog 11 #[ttV n (.slice A l.length c), .slice Ak keys.length ck, .int .i64 s, .slice Ae en.length ce, .int .i64 people, .int .i64 office, .int .i64 al, .int .i64 day, .int .i64 time, .int .i64 r] w fun e w' => e = .returned (fwV zeroF E) ∧ Below w.heap.size w w' := by
  have htt := fun (W : World) (hb : Below w.heap.size w W) => tt_any l n (.slice A l.length c) W (hl.below hb)
  rw [ht0] at htt
  have TT := Lib.hid htt
  have hck : ∀ W, Below w.heap.size w W → Calls Tryz.prog 39 #[.agg #[.int .i64 n, .slice A l.length c], .slice Ak keys.length ck, .int .i64 s, .int .i64 people, .int .i64 office] W fun e w' => e = .panicked [{ v := stopV E, recovered := false }] ∧ Below W.heap.size W w' := fun W hb =>
    (check_main n A l.length c Ak keys.length ck keys s people office W ((hk.below hb).mono hb.size) E hc0).mono (by
      rintro e w' ⟨h | h, hb'⟩
      · exact absurd h.1 h0
      · exact ⟨h.2, hb'⟩)
  have CK := Lib.hid hck
  clear htt hck h0 hc0 ht0 hT hl hk he
  go_enter_defers Tryz.func11, Tryz.ntmps11
  go_upto_region 1 with fail
  have hS := nx_start w n (.slice A l.length c) office
  obtain ⟨W, hW⟩ : ∃ W, ((((w.alloc (.cells #[.int .i64 n, .slice A l.length c] 24)).alloc (.cells #[.int .i64 office] 3)).alloc (.cells zeroF.cells.toArray 38)).alloc (.cells #[.int .i64 0] 39)) = W := ⟨_, rfl⟩
  rw [hW] at hS
  refine (show _ = W from hW) ▸ ?_
  clear hW
  obtain ⟨⟨t0, t1, o0⟩, ⟨x0, x1, x2⟩, ee, ⟨fx0, fx1, fx2, fe⟩, hz⟩ := hS.facts (a := 0) (b := 0) (c := 0) rfl rfl rfl
  have hmf : ∀ (fn : Fn) (first cap : Array Value) (w : World), (Instr.makeFunc fn first cap).run Tryz.prog w = .ok (.func fn first cap) w := fun _ _ _ _ => rfl
  go_wp2_with (first
    | (go_at_call 38; (with_reducible refine (TT.out _ hS.bel).mono ?_); rintro e w1 ⟨rfl, hb⟩; replace hS := hS.below hb; clear hb; clear t0 t1 o0 x0 x1 x2 ee fx0 fx1 fx2 fe hz; obtain ⟨⟨t0, t1, o0⟩, ⟨x0, x1, x2⟩, ee, ⟨fx0, fx1, fx2, fe⟩, hz⟩ := hS.facts (a := 0) (b := 0) (c := 0) rfl rfl rfl)
    | (go_at_call 37; (with_reducible refine (must_ok _).mono ?_); rintro e wm ⟨rfl, rfl⟩)
    | (go_at_call 39; (with_reducible refine (CK.out _ hS.bel).mono ?_); rintro e w2 ⟨rfl, hb⟩; replace hS := hS.below hb; clear hb; clear t0 t1 o0 x0 x1 x2 ee fx0 fx1 fx2 fe hz; obtain ⟨⟨t0, t1, o0⟩, ⟨x0, x1, x2⟩, ee, ⟨fx0, fx1, fx2, fe⟩, hz⟩ := hS.facts (a := 0) (b := 0) (c := 0) rfl rfl rfl))
  refine leaves_cons (f := 36) (args := #[.pointer (some ⟨w.heap.size + 2, 0, none⟩), .pointer (some ⟨w.heap.size + 3, 0, none⟩)]) (by simp) (by simp [go_sem]) ?_
  refine (next1_panic (w.heap.size + 2) (w.heap.size + 3) _ _ E (Fw.len (by simp [homeF, zeroF, zeroD])) _ hS.2.2.2.1 hS.2.2.2.2 (by omega) w.heap.size (by omega)).mono ?_
  rintro e u' w'' ⟨rfl, rfl, hb, q1, q2⟩
  have hB := hS.1.trans hb
  exact leaves_end (ret_next _ _ (w.heap.size + 2) (zeroF.cells) E (Fw.len (by simp [zeroF, zeroD])) rfl rfl q1 q2) ⟨rfl, hB⟩
set_option maxRecDepth 100000 in
set_option maxHeartbeats 4000000 in
theorem next_find (l : List Lx) (n : Int) (A : Option Addr) (c : Nat) (keys : List Int) (Ak : Option Addr) (ck : Nat) (s : Int) (en : List En) (Ae : Option Addr) (ce : Nat) (people office al day time r : Int) (w : World) (hT : TabOK w) (hl : SlX w w.heap.size (.slice A l.length c) l) (hk : SlI w w.heap.size (.slice Ak keys.length ck) keys) (he : SlE w w.heap.size (.slice Ae en.length ce) en) (ht0 : ttE l n = 0) (hc0 : chkK l keys s people office = 0) (q : Int) (hf : findV s people office al = (q, false)) :
    Calls Tryz.prog 11 #[ttV n (.slice A l.length c), .slice Ak keys.length ck, .int .i64 s, .slice Ae en.length ce, .int .i64 people, .int .i64 office, .int .i64 al, .int .i64 day, .int .i64 time, .int .i64 r] w fun e w' => e = .returned (fwV zeroF 350) ∧ Below w.heap.size w w' := by
  have htt := fun (W : World) (hb : Below w.heap.size w W) => tt_any l n (.slice A l.length c) W (hl.below hb)
  rw [ht0] at htt
  have TT := Lib.hid htt
  have hck : ∀ W, Below w.heap.size w W → Calls Tryz.prog 39 #[.agg #[.int .i64 n, .slice A l.length c], .slice Ak keys.length ck, .int .i64 s, .int .i64 people, .int .i64 office] W fun e w' => e = .returned (.tuple #[]) ∧ Below W.heap.size W w' := fun W hb =>
    (check_main n A l.length c Ak keys.length ck keys s people office W ((hk.below hb).mono hb.size) 0 hc0).mono (by
      rintro e w' ⟨h | h, hb'⟩
      · exact ⟨h.2, hb'⟩
      · exact absurd rfl h.1)
  have CK := Lib.hid hck
  have hfi := fun (W : World) (hb : Below w.heap.size w W) => find_any s people office al W (hT.below hb)
  rw [(chkK_0 hc0).2.2.1, hf] at hfi
  have FI := Lib.hid hfi
  obtain ⟨E, hE⟩ : ∃ E : Int, E = 350 := ⟨_, rfl⟩
  have MB := Lib.hid (fun W => must_bad 350 (by decide) W)
  clear htt hck hfi hf hc0 ht0 hT hl hk he
  go_enter_defers Tryz.func11, Tryz.ntmps11
  go_upto_region 1 with fail
  have hS := nx_start w n (.slice A l.length c) office
  obtain ⟨W, hW⟩ : ∃ W, ((((w.alloc (.cells #[.int .i64 n, .slice A l.length c] 24)).alloc (.cells #[.int .i64 office] 3)).alloc (.cells zeroF.cells.toArray 38)).alloc (.cells #[.int .i64 0] 39)) = W := ⟨_, rfl⟩
  rw [hW] at hS
  refine (show _ = W from hW) ▸ ?_
  clear hW
  obtain ⟨⟨t0, t1, o0⟩, ⟨x0, x1, x2⟩, ee, ⟨fx0, fx1, fx2, fe⟩, hz⟩ := hS.facts (a := 0) (b := 0) (c := 0) rfl rfl rfl
  have hmf : ∀ (fn : Fn) (first cap : Array Value) (w : World), (Instr.makeFunc fn first cap).run Tryz.prog w = .ok (.func fn first cap) w := fun _ _ _ _ => rfl
  go_wp2_with (first
    | (go_at_call 38; (with_reducible refine (TT.out _ hS.bel).mono ?_); rintro e w1 ⟨rfl, hb⟩; replace hS := hS.below hb; clear hb; clear t0 t1 o0 x0 x1 x2 ee fx0 fx1 fx2 fe hz; obtain ⟨⟨t0, t1, o0⟩, ⟨x0, x1, x2⟩, ee, ⟨fx0, fx1, fx2, fe⟩, hz⟩ := hS.facts (a := 0) (b := 0) (c := 0) rfl rfl rfl)
    | (go_at_call 37; (with_reducible refine (must_ok _).mono ?_); rintro e wm ⟨rfl, rfl⟩)
    | (go_at_call 37; (with_reducible refine (MB.out _).mono ?_); rintro e wm ⟨rfl, rfl⟩)
    | (go_at_call 39; (with_reducible refine (CK.out _ hS.bel).mono ?_); rintro e w2 ⟨rfl, hb⟩; replace hS := hS.below hb; clear hb; clear t0 t1 o0 x0 x1 x2 ee fx0 fx1 fx2 fe hz; obtain ⟨⟨t0, t1, o0⟩, ⟨x0, x1, x2⟩, ee, ⟨fx0, fx1, fx2, fe⟩, hz⟩ := hS.facts (a := 0) (b := 0) (c := 0) rfl rfl rfl)
    | (go_at_call 18; (with_reducible refine (FI.out _ hS.bel).mono ?_); rintro e w3 ⟨rfl, hb⟩; replace hS := hS.below hb; clear hb; clear t0 t1 o0 x0 x1 x2 ee fx0 fx1 fx2 fe hz; obtain ⟨⟨t0, t1, o0⟩, ⟨x0, x1, x2⟩, ee, ⟨fx0, fx1, fx2, fe⟩, hz⟩ := hS.facts (a := 0) (b := 0) (c := 0) rfl rfl rfl))
  replace hS := hS.setE 0
  subst hE
  refine leaves_cons (f := 36) (args := #[.pointer (some ⟨w.heap.size + 2, 0, none⟩), .pointer (some ⟨w.heap.size + 3, 0, none⟩)]) (by simp) (by simp [go_sem]) ?_
  refine (next1_panic (w.heap.size + 2) (w.heap.size + 3) _ _ 350 (Fw.len (by simp [homeF, zeroF, zeroD])) _ hS.2.2.2.1 hS.2.2.2.2 (by omega) w.heap.size (by omega)).mono ?_
  rintro e u' w'' ⟨rfl, rfl, hb, q1, q2⟩
  have hB := hS.1.trans hb
  exact leaves_end (ret_next _ _ (w.heap.size + 2) (zeroF.cells) 350 (Fw.len (by simp [zeroF, zeroD])) rfl rfl q1 q2) ⟨rfl, hB⟩
set_option maxRecDepth 100000 in
set_option maxHeartbeats 4000000 in
theorem next_where (l : List Lx) (n : Int) (A : Option Addr) (c : Nat) (keys : List Int) (Ak : Option Addr) (ck : Nat) (s : Int) (en : List En) (Ae : Option Addr) (ce : Nat) (people office al day time r : Int) (w : World) (hT : TabOK w) (hl : SlX w w.heap.size (.slice A l.length c) l) (hk : SlI w w.heap.size (.slice Ak keys.length ck) keys) (he : SlE w w.heap.size (.slice Ae en.length ce) en) (ht0 : ttE l n = 0) (hc0 : chkK l keys s people office = 0) (q : Int) (hf : findV s people office al = (q, true)) (a b d : Int) (hw : whereH en q day time = (a, b, d)) (E : Int) (hE : openE en q day time = E) (h0 : E ≠ 0) :
    Calls Tryz.prog 11 #[ttV n (.slice A l.length c), .slice Ak keys.length ck, .int .i64 s, .slice Ae en.length ce, .int .i64 people, .int .i64 office, .int .i64 al, .int .i64 day, .int .i64 time, .int .i64 r] w fun e w' => e = .returned (fwV zeroF E) ∧ Below w.heap.size w w' := by
  have htt := fun (W : World) (hb : Below w.heap.size w W) => tt_any l n (.slice A l.length c) W (hl.below hb)
  rw [ht0] at htt
  have TT := Lib.hid htt
  have hck : ∀ W, Below w.heap.size w W → Calls Tryz.prog 39 #[.agg #[.int .i64 n, .slice A l.length c], .slice Ak keys.length ck, .int .i64 s, .int .i64 people, .int .i64 office] W fun e w' => e = .returned (.tuple #[]) ∧ Below W.heap.size W w' := fun W hb =>
    (check_main n A l.length c Ak keys.length ck keys s people office W ((hk.below hb).mono hb.size) 0 hc0).mono (by
      rintro e w' ⟨h | h, hb'⟩
      · exact ⟨h.2, hb'⟩
      · exact absurd rfl h.1)
  have CK := Lib.hid hck
  have hfi := fun (W : World) (hb : Below w.heap.size w W) => find_any s people office al W (hT.below hb)
  rw [(chkK_0 hc0).2.2.1, hf] at hfi
  have FI := Lib.hid hfi
  have hwh := fun (W : World) (hb : Below w.heap.size w W) => where_any en (.slice Ae en.length ce) q day time W ((he.below hb).mono hb.size)
  rw [hw, hE] at hwh
  have WH := Lib.hid hwh
  have MB := Lib.hid (fun W => must_bad E h0 W)
  clear htt hck hfi hwh hf hc0 ht0 hT hl hk he hw hE h0
  go_enter_defers Tryz.func11, Tryz.ntmps11
  go_upto_region 1 with fail
  have hS := nx_start w n (.slice A l.length c) office
  obtain ⟨W, hW⟩ : ∃ W, ((((w.alloc (.cells #[.int .i64 n, .slice A l.length c] 24)).alloc (.cells #[.int .i64 office] 3)).alloc (.cells zeroF.cells.toArray 38)).alloc (.cells #[.int .i64 0] 39)) = W := ⟨_, rfl⟩
  rw [hW] at hS
  refine (show _ = W from hW) ▸ ?_
  clear hW
  obtain ⟨⟨t0, t1, o0⟩, ⟨x0, x1, x2⟩, ee, ⟨fx0, fx1, fx2, fe⟩, hz⟩ := hS.facts (a := 0) (b := 0) (c := 0) rfl rfl rfl
  have hmf : ∀ (fn : Fn) (first cap : Array Value) (w : World), (Instr.makeFunc fn first cap).run Tryz.prog w = .ok (.func fn first cap) w := fun _ _ _ _ => rfl
  go_wp2_with (first
    | (go_at_call 38; (with_reducible refine (TT.out _ hS.bel).mono ?_); rintro e w1 ⟨rfl, hb⟩; replace hS := hS.below hb; clear hb; clear t0 t1 o0 x0 x1 x2 ee fx0 fx1 fx2 fe hz; obtain ⟨⟨t0, t1, o0⟩, ⟨x0, x1, x2⟩, ee, ⟨fx0, fx1, fx2, fe⟩, hz⟩ := hS.facts (a := 0) (b := 0) (c := 0) rfl rfl rfl)
    | (go_at_call 37; (with_reducible refine (MB.out _).mono ?_); rintro e wm ⟨rfl, rfl⟩)
    | (go_at_call 37; (with_reducible refine (must_ok _).mono ?_); rintro e wm ⟨rfl, rfl⟩)
    | (go_at_call 39; (with_reducible refine (CK.out _ hS.bel).mono ?_); rintro e w2 ⟨rfl, hb⟩; replace hS := hS.below hb; clear hb; clear t0 t1 o0 x0 x1 x2 ee fx0 fx1 fx2 fe hz; obtain ⟨⟨t0, t1, o0⟩, ⟨x0, x1, x2⟩, ee, ⟨fx0, fx1, fx2, fe⟩, hz⟩ := hS.facts (a := 0) (b := 0) (c := 0) rfl rfl rfl)
    | (go_at_call 18; (with_reducible refine (FI.out _ hS.bel).mono ?_); rintro e w3 ⟨rfl, hb⟩; replace hS := hS.below hb; clear hb; clear t0 t1 o0 x0 x1 x2 ee fx0 fx1 fx2 fe hz; obtain ⟨⟨t0, t1, o0⟩, ⟨x0, x1, x2⟩, ee, ⟨fx0, fx1, fx2, fe⟩, hz⟩ := hS.facts (a := 0) (b := 0) (c := 0) rfl rfl rfl)
    | (go_at_call 40; have hSe := hS.setE 0; (with_reducible refine (WH.out _ hSe.bel).mono ?_); rintro e w4 ⟨rfl, hb⟩; replace hS := hSe.below hb; clear hb hSe; clear t0 t1 o0 x0 x1 x2 ee fx0 fx1 fx2 fe hz; obtain ⟨⟨t0, t1, o0⟩, ⟨x0, x1, x2⟩, ee, ⟨fx0, fx1, fx2, fe⟩, hz⟩ := hS.facts (a := 0) (b := 0) (c := 0) rfl rfl rfl))
  have hS2 := (hS.home (a, b, d)).setE E
  refine leaves_cons (f := 36) (args := #[.pointer (some ⟨w.heap.size + 2, 0, none⟩), .pointer (some ⟨w.heap.size + 3, 0, none⟩)]) (by simp) (by simp [go_sem]) ?_
  refine (next1_panic (w.heap.size + 2) (w.heap.size + 3) _ _ E (Fw.len (by simp [homeF, zeroF, zeroD])) _ hS2.2.2.2.1 hS2.2.2.2.2 (by omega) w.heap.size (by omega)).mono ?_
  rintro e u' w'' ⟨rfl, rfl, hb, q1, q2⟩
  have hB := hS2.1.trans hb
  exact leaves_end (ret_next _ _ (w.heap.size + 2) (zeroF.cells) E (Fw.len (by simp [zeroF, zeroD])) rfl rfl q1 q2) ⟨rfl, hB⟩
end Go.Proofs.YthckledagggoiaaGreatDoor

set_option linter.unusedSimpArgs false
set_option linter.unusedVariables false
namespace Go.Proofs.YthckledagggoiaaGreatDoor
open Go.RowKit Go.Shelf Fk Sha
/-! forward.Next: where it ends. -/
set_option maxRecDepth 100000 in
set_option maxHeartbeats 4000000 in
theorem next_home1 (l : List Lx) (n : Int) (A : Option Addr) (c : Nat) (keys : List Int) (Ak : Option Addr) (ck : Nat) (s : Int) (en : List En) (Ae : Option Addr) (ce : Nat) (people office al day time r : Int) (w : World) (hT : TabOK w) (hl : SlX w w.heap.size (.slice A l.length c) l) (hk : SlI w w.heap.size (.slice Ak keys.length ck) keys) (he : SlE w w.heap.size (.slice Ae en.length ce) en) (ht0 : ttE l n = 0) (hc0 : chkK l keys s people office = 0) (q : Int) (hf : findV s people office al = (q, true)) (a b d : Int) (hw : whereH en q day time = (a, b, d)) (hE : openE en q day time = 0) (ha : a ≠ 1) :
    Calls Tryz.prog 11 #[ttV n (.slice A l.length c), .slice Ak keys.length ck, .int .i64 s, .slice Ae en.length ce, .int .i64 people, .int .i64 office, .int .i64 al, .int .i64 day, .int .i64 time, .int .i64 r] w fun e w' => e = .returned (fwV (homeF (a, b, d)) 0) ∧ Below w.heap.size w w' := by
  have htt := fun (W : World) (hb : Below w.heap.size w W) => tt_any l n (.slice A l.length c) W (hl.below hb)
  rw [ht0] at htt
  have TT := Lib.hid htt
  have hck : ∀ W, Below w.heap.size w W → Calls Tryz.prog 39 #[.agg #[.int .i64 n, .slice A l.length c], .slice Ak keys.length ck, .int .i64 s, .int .i64 people, .int .i64 office] W fun e w' => e = .returned (.tuple #[]) ∧ Below W.heap.size W w' := fun W hb =>
    (check_main n A l.length c Ak keys.length ck keys s people office W ((hk.below hb).mono hb.size) 0 hc0).mono (by
      rintro e w' ⟨h | h, hb'⟩
      · exact ⟨h.2, hb'⟩
      · exact absurd rfl h.1)
  have CK := Lib.hid hck
  have hfi := fun (W : World) (hb : Below w.heap.size w W) => find_any s people office al W (hT.below hb)
  rw [(chkK_0 hc0).2.2.1, hf] at hfi
  have FI := Lib.hid hfi
  have hwh := fun (W : World) (hb : Below w.heap.size w W) => where_any en (.slice Ae en.length ce) q day time W ((he.below hb).mono hb.size)
  rw [hw, hE] at hwh
  have WH := Lib.hid hwh
  have z1 : (a != 1) = true := bne_iff_ne.2 ha
  clear ha
  clear htt hck hfi hwh hf hc0 ht0 hT hl hk he hw hE
  have hinf : Hid ((Tryz.prog.info? 38).map (·.size) = some 39) := Lib.hid (by kernel_rfl)
  go_enter_defers Tryz.func11, Tryz.ntmps11
  go_upto_region 1 with fail
  have hS := nx_start w n (.slice A l.length c) office
  obtain ⟨W, hW⟩ : ∃ W, ((((w.alloc (.cells #[.int .i64 n, .slice A l.length c] 24)).alloc (.cells #[.int .i64 office] 3)).alloc (.cells zeroF.cells.toArray 38)).alloc (.cells #[.int .i64 0] 39)) = W := ⟨_, rfl⟩
  rw [hW] at hS
  refine (show _ = W from hW) ▸ ?_
  clear hW
  obtain ⟨⟨t0, t1, o0⟩, ⟨x0, x1, x2⟩, ee, ⟨fx0, fx1, fx2, fe⟩, hz⟩ := hS.facts (a := 0) (b := 0) (c := 0) rfl rfl rfl
  have hmf : ∀ (fn : Fn) (first cap : Array Value) (w : World), (Instr.makeFunc fn first cap).run Tryz.prog w = .ok (.func fn first cap) w := fun _ _ _ _ => rfl
  go_wp2_with (first
    | (go_at_call 38; (with_reducible refine (TT.out _ hS.bel).mono ?_); rintro e w1 ⟨rfl, hb⟩; replace hS := hS.below hb; clear hb; clear t0 t1 o0 x0 x1 x2 ee fx0 fx1 fx2 fe hz; obtain ⟨⟨t0, t1, o0⟩, ⟨x0, x1, x2⟩, ee, ⟨fx0, fx1, fx2, fe⟩, hz⟩ := hS.facts (a := 0) (b := 0) (c := 0) rfl rfl rfl)
    | (have := HWD; go_at_call 37; (with_reducible refine (must_ok _).mono ?_); rintro e wm ⟨rfl, hwm⟩; replace hS : NxS w wm n (.slice A l.length c) office (homeF (a, b, d)) 0 := (by rw [hwm]; exact (hS.home (a, b, d)).setE 0); clear this HWD hwm; clear t0 t1 o0 x0 x1 x2 ee fx0 fx1 fx2 fe hz; obtain ⟨⟨t0, t1, o0⟩, ⟨x0, x1, x2⟩, ee, ⟨fx0, fx1, fx2, fe⟩, hz⟩ := hS.facts (a := a) (b := b) (c := d) rfl rfl rfl; obtain ⟨XC, hXC⟩ : ∃ XC, (homeF (a, b, d)).cells = XC := ⟨_, rfl⟩; have hR2 : Row wm (w.heap.size + 2) 38 XC := hXC ▸ hS.2.2.2.1; have hlx : XC.length = 39 := hXC ▸ Fw.len (by simp [homeF, zeroD]); have hst := store_self (hXC ▸ Fw.one (homeF (a, b, d))) hR2; have HXC := Lib.hid hXC; clear hXC)
    | (go_at_call 37; (with_reducible refine (must_ok _).mono ?_); rintro e wm ⟨rfl, rfl⟩)
    | (go_at_call 39; (with_reducible refine (CK.out _ hS.bel).mono ?_); rintro e w2 ⟨rfl, hb⟩; replace hS := hS.below hb; clear hb; clear t0 t1 o0 x0 x1 x2 ee fx0 fx1 fx2 fe hz; obtain ⟨⟨t0, t1, o0⟩, ⟨x0, x1, x2⟩, ee, ⟨fx0, fx1, fx2, fe⟩, hz⟩ := hS.facts (a := 0) (b := 0) (c := 0) rfl rfl rfl)
    | (go_at_call 18; (with_reducible refine (FI.out _ hS.bel).mono ?_); rintro e w3 ⟨rfl, hb⟩; replace hS := hS.below hb; clear hb; clear t0 t1 o0 x0 x1 x2 ee fx0 fx1 fx2 fe hz; obtain ⟨⟨t0, t1, o0⟩, ⟨x0, x1, x2⟩, ee, ⟨fx0, fx1, fx2, fe⟩, hz⟩ := hS.facts (a := 0) (b := 0) (c := 0) rfl rfl rfl)
    | (go_at_call 40; have hSe := hS.setE 0; (with_reducible refine (WH.out _ hSe.bel).mono ?_); rintro e w4 ⟨rfl, hb⟩; replace hS := hSe.below hb; clear hb hSe; clear t0 t1 o0 x0 x1 x2 ee fx0 fx1 fx2 fe hz; obtain ⟨⟨t0, t1, o0⟩, ⟨x0, x1, x2⟩, ee, ⟨fx0, fx1, fx2, fe⟩, hz⟩ := hS.facts (a := 0) (b := 0) (c := 0) rfl rfl rfl; have HWD := True.intro)
    | (refine wpList_load_row rfl 38 (.tmp 20) rfl (w.heap.size + 2) rfl 38 _ (0, 0) _ hR2 Tryz.underlying38 rfl (by rw [hinf.out]; simp [hlx]) ?_))
  replace hS := hS.setE 0
  refine leaves_cons (f := 36) (args := #[.pointer (some ⟨w.heap.size + 2, 0, none⟩), .pointer (some ⟨w.heap.size + 3, 0, none⟩)]) (by simp) (by simp [go_sem]) ?_
  refine (next1_idle (w.heap.size + 2) (w.heap.size + 3) _).mono ?_
  rintro e u' w'' ⟨rfl, rfl, rfl⟩
  have q2 := hS.2.2.2.2
  have q1 : Row _ (w.heap.size + 2) 38 (homeF (a, b, d)).cells := hS.2.2.2.1
  exact leaves_end (ret_next _ _ (w.heap.size + 2) ((homeF (a, b, d)).cells) 0 (Fw.len (by simp [homeF, zeroD])) rfl rfl q1 q2) ⟨rfl, hS.1⟩
set_option maxRecDepth 100000 in
set_option maxHeartbeats 4000000 in
theorem next_home2 (l : List Lx) (n : Int) (A : Option Addr) (c : Nat) (keys : List Int) (Ak : Option Addr) (ck : Nat) (s : Int) (en : List En) (Ae : Option Addr) (ce : Nat) (people office al day time r : Int) (w : World) (hT : TabOK w) (hl : SlX w w.heap.size (.slice A l.length c) l) (hk : SlI w w.heap.size (.slice Ak keys.length ck) keys) (he : SlE w w.heap.size (.slice Ae en.length ce) en) (ht0 : ttE l n = 0) (hc0 : chkK l keys s people office = 0) (q : Int) (hf : findV s people office al = (q, true)) (a b d : Int) (hw : whereH en q day time = (a, b, d)) (hE : openE en q day time = 0) (ha : a = 1) (hd : d = office) :
    Calls Tryz.prog 11 #[ttV n (.slice A l.length c), .slice Ak keys.length ck, .int .i64 s, .slice Ae en.length ce, .int .i64 people, .int .i64 office, .int .i64 al, .int .i64 day, .int .i64 time, .int .i64 r] w fun e w' => e = .returned (fwV (homeF (a, b, d)) 0) ∧ Below w.heap.size w w' := by
  have htt := fun (W : World) (hb : Below w.heap.size w W) => tt_any l n (.slice A l.length c) W (hl.below hb)
  rw [ht0] at htt
  have TT := Lib.hid htt
  have hck : ∀ W, Below w.heap.size w W → Calls Tryz.prog 39 #[.agg #[.int .i64 n, .slice A l.length c], .slice Ak keys.length ck, .int .i64 s, .int .i64 people, .int .i64 office] W fun e w' => e = .returned (.tuple #[]) ∧ Below W.heap.size W w' := fun W hb =>
    (check_main n A l.length c Ak keys.length ck keys s people office W ((hk.below hb).mono hb.size) 0 hc0).mono (by
      rintro e w' ⟨h | h, hb'⟩
      · exact ⟨h.2, hb'⟩
      · exact absurd rfl h.1)
  have CK := Lib.hid hck
  have hfi := fun (W : World) (hb : Below w.heap.size w W) => find_any s people office al W (hT.below hb)
  rw [(chkK_0 hc0).2.2.1, hf] at hfi
  have FI := Lib.hid hfi
  have hwh := fun (W : World) (hb : Below w.heap.size w W) => where_any en (.slice Ae en.length ce) q day time W ((he.below hb).mono hb.size)
  rw [hw, hE] at hwh
  have WH := Lib.hid hwh
  have z2 : (d == office) = true := by rw [hd]; exact beq_self_eq_true _
  clear hd
  subst ha
  clear htt hck hfi hwh hf hc0 ht0 hT hl hk he hw hE
  have hinf : Hid ((Tryz.prog.info? 38).map (·.size) = some 39) := Lib.hid (by kernel_rfl)
  go_enter_defers Tryz.func11, Tryz.ntmps11
  go_upto_region 1 with fail
  have hS := nx_start w n (.slice A l.length c) office
  obtain ⟨W, hW⟩ : ∃ W, ((((w.alloc (.cells #[.int .i64 n, .slice A l.length c] 24)).alloc (.cells #[.int .i64 office] 3)).alloc (.cells zeroF.cells.toArray 38)).alloc (.cells #[.int .i64 0] 39)) = W := ⟨_, rfl⟩
  rw [hW] at hS
  refine (show _ = W from hW) ▸ ?_
  clear hW
  obtain ⟨⟨t0, t1, o0⟩, ⟨x0, x1, x2⟩, ee, ⟨fx0, fx1, fx2, fe⟩, hz⟩ := hS.facts (a := 0) (b := 0) (c := 0) rfl rfl rfl
  have hmf : ∀ (fn : Fn) (first cap : Array Value) (w : World), (Instr.makeFunc fn first cap).run Tryz.prog w = .ok (.func fn first cap) w := fun _ _ _ _ => rfl
  go_wp2_with (first
    | (go_at_call 38; (with_reducible refine (TT.out _ hS.bel).mono ?_); rintro e w1 ⟨rfl, hb⟩; replace hS := hS.below hb; clear hb; clear t0 t1 o0 x0 x1 x2 ee fx0 fx1 fx2 fe hz; obtain ⟨⟨t0, t1, o0⟩, ⟨x0, x1, x2⟩, ee, ⟨fx0, fx1, fx2, fe⟩, hz⟩ := hS.facts (a := 0) (b := 0) (c := 0) rfl rfl rfl)
    | (have := HWD; go_at_call 37; (with_reducible refine (must_ok _).mono ?_); rintro e wm ⟨rfl, hwm⟩; replace hS : NxS w wm n (.slice A l.length c) office (homeF (1, b, d)) 0 := (by rw [hwm]; exact (hS.home (1, b, d)).setE 0); clear this HWD hwm; clear t0 t1 o0 x0 x1 x2 ee fx0 fx1 fx2 fe hz; obtain ⟨⟨t0, t1, o0⟩, ⟨x0, x1, x2⟩, ee, ⟨fx0, fx1, fx2, fe⟩, hz⟩ := hS.facts (a := 1) (b := b) (c := d) rfl rfl rfl; obtain ⟨XC, hXC⟩ : ∃ XC, (homeF (1, b, d)).cells = XC := ⟨_, rfl⟩; have hR2 : Row wm (w.heap.size + 2) 38 XC := hXC ▸ hS.2.2.2.1; have hlx : XC.length = 39 := hXC ▸ Fw.len (by simp [homeF, zeroD]); have hst := store_self (hXC ▸ Fw.one (homeF (1, b, d))) hR2; have HXC := Lib.hid hXC; clear hXC)
    | (go_at_call 37; (with_reducible refine (must_ok _).mono ?_); rintro e wm ⟨rfl, rfl⟩)
    | (go_at_call 39; (with_reducible refine (CK.out _ hS.bel).mono ?_); rintro e w2 ⟨rfl, hb⟩; replace hS := hS.below hb; clear hb; clear t0 t1 o0 x0 x1 x2 ee fx0 fx1 fx2 fe hz; obtain ⟨⟨t0, t1, o0⟩, ⟨x0, x1, x2⟩, ee, ⟨fx0, fx1, fx2, fe⟩, hz⟩ := hS.facts (a := 0) (b := 0) (c := 0) rfl rfl rfl)
    | (go_at_call 18; (with_reducible refine (FI.out _ hS.bel).mono ?_); rintro e w3 ⟨rfl, hb⟩; replace hS := hS.below hb; clear hb; clear t0 t1 o0 x0 x1 x2 ee fx0 fx1 fx2 fe hz; obtain ⟨⟨t0, t1, o0⟩, ⟨x0, x1, x2⟩, ee, ⟨fx0, fx1, fx2, fe⟩, hz⟩ := hS.facts (a := 0) (b := 0) (c := 0) rfl rfl rfl)
    | (go_at_call 40; have hSe := hS.setE 0; (with_reducible refine (WH.out _ hSe.bel).mono ?_); rintro e w4 ⟨rfl, hb⟩; replace hS := hSe.below hb; clear hb hSe; clear t0 t1 o0 x0 x1 x2 ee fx0 fx1 fx2 fe hz; obtain ⟨⟨t0, t1, o0⟩, ⟨x0, x1, x2⟩, ee, ⟨fx0, fx1, fx2, fe⟩, hz⟩ := hS.facts (a := 0) (b := 0) (c := 0) rfl rfl rfl; have HWD := True.intro)
    | (refine wpList_load_row rfl 38 (.tmp 20) rfl (w.heap.size + 2) rfl 38 _ (0, 0) _ hR2 Tryz.underlying38 rfl (by rw [hinf.out]; simp [hlx]) ?_))
  replace hS := hS.setE 0
  refine leaves_cons (f := 36) (args := #[.pointer (some ⟨w.heap.size + 2, 0, none⟩), .pointer (some ⟨w.heap.size + 3, 0, none⟩)]) (by simp) (by simp [go_sem]) ?_
  refine (next1_idle (w.heap.size + 2) (w.heap.size + 3) _).mono ?_
  rintro e u' w'' ⟨rfl, rfl, rfl⟩
  have q2 := hS.2.2.2.2
  have q1 : Row _ (w.heap.size + 2) 38 (homeF (1, b, d)).cells := hS.2.2.2.1
  exact leaves_end (ret_next _ _ (w.heap.size + 2) ((homeF (1, b, d)).cells) 0 (Fw.len (by simp [homeF, zeroD])) rfl rfl q1 q2) ⟨rfl, hS.1⟩
end Go.Proofs.YthckledagggoiaaGreatDoor

set_option linter.unusedSimpArgs false
set_option linter.unusedVariables false
namespace Go.Proofs.YthckledagggoiaaGreatDoor
open Go.RowKit Go.Shelf Fk Sha
/-! forward.Next: where it ends. -/
set_option maxRecDepth 100000 in
set_option maxHeartbeats 4000000 in
theorem next_hold (l : List Lx) (n : Int) (A : Option Addr) (c : Nat) (keys : List Int) (Ak : Option Addr) (ck : Nat) (s : Int) (en : List En) (Ae : Option Addr) (ce : Nat) (people office al day time r : Int) (w : World) (hT : TabOK w) (hl : SlX w w.heap.size (.slice A l.length c) l) (hk : SlI w w.heap.size (.slice Ak keys.length ck) keys) (he : SlE w w.heap.size (.slice Ae en.length ce) en) (ht0 : ttE l n = 0) (hc0 : chkK l keys s people office = 0) (q : Int) (hf : findV s people office al = (q, true)) (b d : Int) (hw : whereH en q day time = (1, b, d)) (hE : openE en q day time = 0) (hd : d ≠ office) (hi : idxO l office d = none) :
    Calls Tryz.prog 11 #[ttV n (.slice A l.length c), .slice Ak keys.length ck, .int .i64 s, .slice Ae en.length ce, .int .i64 people, .int .i64 office, .int .i64 al, .int .i64 day, .int .i64 time, .int .i64 r] w fun e w' => e = .returned (fwV (homeF (2, b, 0)) 0) ∧ Below w.heap.size w w' := by
  have htt := fun (W : World) (hb : Below w.heap.size w W) => tt_any l n (.slice A l.length c) W (hl.below hb)
  rw [ht0] at htt
  have TT := Lib.hid htt
  have hck : ∀ W, Below w.heap.size w W → Calls Tryz.prog 39 #[.agg #[.int .i64 n, .slice A l.length c], .slice Ak keys.length ck, .int .i64 s, .int .i64 people, .int .i64 office] W fun e w' => e = .returned (.tuple #[]) ∧ Below W.heap.size W w' := fun W hb =>
    (check_main n A l.length c Ak keys.length ck keys s people office W ((hk.below hb).mono hb.size) 0 hc0).mono (by
      rintro e w' ⟨h | h, hb'⟩
      · exact ⟨h.2, hb'⟩
      · exact absurd rfl h.1)
  have CK := Lib.hid hck
  have hfi := fun (W : World) (hb : Below w.heap.size w W) => find_any s people office al W (hT.below hb)
  rw [(chkK_0 hc0).2.2.1, hf] at hfi
  have FI := Lib.hid hfi
  have hwh := fun (W : World) (hb : Below w.heap.size w W) => where_any en (.slice Ae en.length ce) q day time W ((he.below hb).mono hb.size)
  rw [hw, hE] at hwh
  have WH := Lib.hid hwh
  have hix := fun (W : World) (hb : Below w.heap.size w W) (e2 : W.cell? ⟨w.heap.size + 1, 0, none⟩ = some (.int .i64 office)) (e3 : W.cell? ⟨w.heap.size + 2, 2, none⟩ = some (.int .i64 d)) => index_any l (.slice A l.length c) office d (w.heap.size + 1) (w.heap.size + 2) W (hl.below hb) (ttE_len ht0) e2 e3
  rw [hi] at hix
  simp only [optI] at hix
  have IX := Lib.hid hix
  have z2 : (d == office) = false := beq_eq_false_iff_ne.2 hd
  clear hd
  clear htt hck hfi hwh hix hi hf hc0 ht0 hT hl hk he hw hE
  go_enter_defers Tryz.func11, Tryz.ntmps11
  go_upto_region 1 with fail
  have hS := nx_start w n (.slice A l.length c) office
  obtain ⟨W, hW⟩ : ∃ W, ((((w.alloc (.cells #[.int .i64 n, .slice A l.length c] 24)).alloc (.cells #[.int .i64 office] 3)).alloc (.cells zeroF.cells.toArray 38)).alloc (.cells #[.int .i64 0] 39)) = W := ⟨_, rfl⟩
  rw [hW] at hS
  refine (show _ = W from hW) ▸ ?_
  clear hW
  obtain ⟨⟨t0, t1, o0⟩, ⟨x0, x1, x2⟩, ee, ⟨fx0, fx1, fx2, fe⟩, hz⟩ := hS.facts (a := 0) (b := 0) (c := 0) rfl rfl rfl
  have hmf : ∀ (fn : Fn) (first cap : Array Value) (w : World), (Instr.makeFunc fn first cap).run Tryz.prog w = .ok (.func fn first cap) w := fun _ _ _ _ => rfl
  go_wp2_with (first
    | (go_at_call 38; (with_reducible refine (TT.out _ hS.bel).mono ?_); rintro e w1 ⟨rfl, hb⟩; replace hS := hS.below hb; clear hb; clear t0 t1 o0 x0 x1 x2 ee fx0 fx1 fx2 fe hz; obtain ⟨⟨t0, t1, o0⟩, ⟨x0, x1, x2⟩, ee, ⟨fx0, fx1, fx2, fe⟩, hz⟩ := hS.facts (a := 0) (b := 0) (c := 0) rfl rfl rfl)
    | (have := HWD; go_at_call 37; (with_reducible refine (must_ok _).mono ?_); rintro e wm ⟨rfl, hwm⟩; replace hS : NxS w wm n (.slice A l.length c) office (homeF (1, b, d)) 0 := (by rw [hwm]; exact (hS.home (1, b, d)).setE 0); clear this HWD hwm; clear t0 t1 o0 x0 x1 x2 ee fx0 fx1 fx2 fe hz; obtain ⟨⟨t0, t1, o0⟩, ⟨x0, x1, x2⟩, ee, ⟨fx0, fx1, fx2, fe⟩, hz⟩ := hS.facts (a := 1) (b := b) (c := d) rfl rfl rfl)
    | (go_at_call 37; (with_reducible refine (must_ok _).mono ?_); rintro e wm ⟨rfl, rfl⟩)
    | (go_at_call 39; (with_reducible refine (CK.out _ hS.bel).mono ?_); rintro e w2 ⟨rfl, hb⟩; replace hS := hS.below hb; clear hb; clear t0 t1 o0 x0 x1 x2 ee fx0 fx1 fx2 fe hz; obtain ⟨⟨t0, t1, o0⟩, ⟨x0, x1, x2⟩, ee, ⟨fx0, fx1, fx2, fe⟩, hz⟩ := hS.facts (a := 0) (b := 0) (c := 0) rfl rfl rfl)
    | (go_at_call 18; (with_reducible refine (FI.out _ hS.bel).mono ?_); rintro e w3 ⟨rfl, hb⟩; replace hS := hS.below hb; clear hb; clear t0 t1 o0 x0 x1 x2 ee fx0 fx1 fx2 fe hz; obtain ⟨⟨t0, t1, o0⟩, ⟨x0, x1, x2⟩, ee, ⟨fx0, fx1, fx2, fe⟩, hz⟩ := hS.facts (a := 0) (b := 0) (c := 0) rfl rfl rfl)
    | (go_at_call 40; have hSe := hS.setE 0; (with_reducible refine (WH.out _ hSe.bel).mono ?_); rintro e w4 ⟨rfl, hb⟩; replace hS := hSe.below hb; clear hb hSe; clear t0 t1 o0 x0 x1 x2 ee fx0 fx1 fx2 fe hz; obtain ⟨⟨t0, t1, o0⟩, ⟨x0, x1, x2⟩, ee, ⟨fx0, fx1, fx2, fe⟩, hz⟩ := hS.facts (a := 0) (b := 0) (c := 0) rfl rfl rfl; have HWD := True.intro)
    | (go_at_call 41; (with_reducible refine (IX.out _ hS.bel o0 x2).mono ?_); rintro e wi ⟨rfl, hb⟩; replace hS := hS.below hb; clear hb; clear t0 t1 o0 x0 x1 x2 ee fx0 fx1 fx2 fe hz; obtain ⟨⟨t0, t1, o0⟩, ⟨x0, x1, x2⟩, ee, ⟨fx0, fx1, fx2, fe⟩, hz⟩ := hS.facts (a := 1) (b := b) (c := d) rfl rfl rfl; have hst := store_whole (Fw.one (homeF (2, b, 0))) hS.2.2.2.1 (by rw [Fw.len (by simp [homeF, zeroD]), Fw.len (by simp [homeF, zeroD])]); have hl39 : (homeF (2, b, 0)).cells.length = 39 := Fw.len (by simp [homeF, zeroD]); have hS7 := hS.setX (homeF (2, b, 0)); generalize wi.setRow (w.heap.size + 2) (homeF (2, b, 0)).cells.toArray = W7 at *; have fe7 := hS7.2.2.2.2.frozen 0; have ee7 : W7.cell? ⟨w.heap.size + 3, 0, none⟩ = some (.int .i64 0) := hS7.2.2.2.2.cell 0)
    | (refine wpList_buildTo rfl 38 _ rfl (some 85) rfl (homeF (2, b, 0)).cells.toArray (by kernel_rfl) ?_))
  replace hS := hS7.setE 0
  refine leaves_cons (f := 36) (args := #[.pointer (some ⟨w.heap.size + 2, 0, none⟩), .pointer (some ⟨w.heap.size + 3, 0, none⟩)]) (by simp) (by simp [go_sem]) ?_
  refine (next1_idle (w.heap.size + 2) (w.heap.size + 3) _).mono ?_
  rintro e u' w'' ⟨rfl, rfl, rfl⟩
  have q2 := hS.2.2.2.2
  have q1 : Row _ (w.heap.size + 2) 38 (homeF (2, b, 0)).cells := hS.2.2.2.1
  exact leaves_end (ret_next _ _ (w.heap.size + 2) ((homeF (2, b, 0)).cells) 0 (Fw.len (by simp [homeF, zeroD])) rfl rfl q1 q2) ⟨rfl, hS.1⟩
end Go.Proofs.YthckledagggoiaaGreatDoor

set_option linter.unusedSimpArgs false
set_option linter.unusedVariables false
namespace Go.Proofs.YthckledagggoiaaGreatDoor
open Go.RowKit Go.Shelf Fk Sha
/-! forward.Next: where it ends. -/
set_option maxRecDepth 100000 in
set_option maxHeartbeats 4000000 in
theorem next_noalias (l : List Lx) (n : Int) (A : Option Addr) (c : Nat) (keys : List Int) (Ak : Option Addr) (ck : Nat) (s : Int) (en : List En) (Ae : Option Addr) (ce : Nat) (people office al day time r : Int) (w : World) (hT : TabOK w) (hl : SlX w w.heap.size (.slice A l.length c) l) (hk : SlI w w.heap.size (.slice Ak keys.length ck) keys) (he : SlE w w.heap.size (.slice Ae en.length ce) en) (ht0 : ttE l n = 0) (hc0 : chkK l keys s people office = 0) (q : Int) (hf : findV s people office al = (q, true)) (b d : Int) (hw : whereH en q day time = (1, b, d)) (hE : openE en q day time = 0) (hd : d ≠ office) (k : Nat) (hi : idxO l office d = some k) (E : Int) (hA : ckE s d (idP b) = E) (h0 : E ≠ 0) :
    Calls Tryz.prog 11 #[ttV n (.slice A l.length c), .slice Ak keys.length ck, .int .i64 s, .slice Ae en.length ce, .int .i64 people, .int .i64 office, .int .i64 al, .int .i64 day, .int .i64 time, .int .i64 r] w fun e w' => e = .returned (fwV zeroF E) ∧ Below w.heap.size w w' := by
  have htt := fun (W : World) (hb : Below w.heap.size w W) => tt_any l n (.slice A l.length c) W (hl.below hb)
  rw [ht0] at htt
  have TT := Lib.hid htt
  have hck : ∀ W, Below w.heap.size w W → Calls Tryz.prog 39 #[.agg #[.int .i64 n, .slice A l.length c], .slice Ak keys.length ck, .int .i64 s, .int .i64 people, .int .i64 office] W fun e w' => e = .returned (.tuple #[]) ∧ Below W.heap.size W w' := fun W hb =>
    (check_main n A l.length c Ak keys.length ck keys s people office W ((hk.below hb).mono hb.size) 0 hc0).mono (by
      rintro e w' ⟨h | h, hb'⟩
      · exact ⟨h.2, hb'⟩
      · exact absurd rfl h.1)
  have CK := Lib.hid hck
  have hfi := fun (W : World) (hb : Below w.heap.size w W) => find_any s people office al W (hT.below hb)
  rw [(chkK_0 hc0).2.2.1, hf] at hfi
  have FI := Lib.hid hfi
  have hwh := fun (W : World) (hb : Below w.heap.size w W) => where_any en (.slice Ae en.length ce) q day time W ((he.below hb).mono hb.size)
  rw [hw, hE] at hwh
  have WH := Lib.hid hwh
  have hix := fun (W : World) (hb : Below w.heap.size w W) (e2 : W.cell? ⟨w.heap.size + 1, 0, none⟩ = some (.int .i64 office)) (e3 : W.cell? ⟨w.heap.size + 2, 2, none⟩ = some (.int .i64 d)) => index_any l (.slice A l.length c) office d (w.heap.size + 1) (w.heap.size + 2) W (hl.below hb) (ttE_len ht0) e2 e3
  rw [hi] at hix
  simp only [optI] at hix
  have kneg : decide ((k : Int) < 0) = false := decide_eq_false (by omega)
  have IX := Lib.hid hix
  have hal := fun (W : World) (hb : Below w.heap.size w W) => alias_any s b d W (hT.below hb)
  rw [hA] at hal
  obtain ⟨AV, hAV⟩ : ∃ x, aliasA s b d = x := ⟨_, rfl⟩
  rw [hAV] at hal
  have AL := Lib.hid hal
  have z2 : (d == office) = false := beq_eq_false_iff_ne.2 hd
  clear hd
  have MB := Lib.hid (fun W => must_bad E h0 W)
  clear htt hck hfi hwh hix hi hf hc0 ht0 hT hl hk he hw hE hal hA hAV h0
  go_enter_defers Tryz.func11, Tryz.ntmps11
  go_upto_region 1 with fail
  have hS := nx_start w n (.slice A l.length c) office
  obtain ⟨W, hW⟩ : ∃ W, ((((w.alloc (.cells #[.int .i64 n, .slice A l.length c] 24)).alloc (.cells #[.int .i64 office] 3)).alloc (.cells zeroF.cells.toArray 38)).alloc (.cells #[.int .i64 0] 39)) = W := ⟨_, rfl⟩
  rw [hW] at hS
  refine (show _ = W from hW) ▸ ?_
  clear hW
  obtain ⟨⟨t0, t1, o0⟩, ⟨x0, x1, x2⟩, ee, ⟨fx0, fx1, fx2, fe⟩, hz⟩ := hS.facts (a := 0) (b := 0) (c := 0) rfl rfl rfl
  have hmf : ∀ (fn : Fn) (first cap : Array Value) (w : World), (Instr.makeFunc fn first cap).run Tryz.prog w = .ok (.func fn first cap) w := fun _ _ _ _ => rfl
  go_wp2_with (first
    | (go_at_call 38; (with_reducible refine (TT.out _ hS.bel).mono ?_); rintro e w1 ⟨rfl, hb⟩; replace hS := hS.below hb; clear hb; clear t0 t1 o0 x0 x1 x2 ee fx0 fx1 fx2 fe hz; obtain ⟨⟨t0, t1, o0⟩, ⟨x0, x1, x2⟩, ee, ⟨fx0, fx1, fx2, fe⟩, hz⟩ := hS.facts (a := 0) (b := 0) (c := 0) rfl rfl rfl)
    | (have := HWD; go_at_call 37; (with_reducible refine (must_ok _).mono ?_); rintro e wm ⟨rfl, hwm⟩; replace hS : NxS w wm n (.slice A l.length c) office (homeF (1, b, d)) 0 := (by rw [hwm]; exact (hS.home (1, b, d)).setE 0); clear this HWD hwm; clear t0 t1 o0 x0 x1 x2 ee fx0 fx1 fx2 fe hz; obtain ⟨⟨t0, t1, o0⟩, ⟨x0, x1, x2⟩, ee, ⟨fx0, fx1, fx2, fe⟩, hz⟩ := hS.facts (a := 1) (b := b) (c := d) rfl rfl rfl)
    | (go_at_call 37; (with_reducible refine (MB.out _).mono ?_); rintro e wm ⟨rfl, rfl⟩)
    | (go_at_call 37; (with_reducible refine (must_ok _).mono ?_); rintro e wm ⟨rfl, rfl⟩)
    | (go_at_call 39; (with_reducible refine (CK.out _ hS.bel).mono ?_); rintro e w2 ⟨rfl, hb⟩; replace hS := hS.below hb; clear hb; clear t0 t1 o0 x0 x1 x2 ee fx0 fx1 fx2 fe hz; obtain ⟨⟨t0, t1, o0⟩, ⟨x0, x1, x2⟩, ee, ⟨fx0, fx1, fx2, fe⟩, hz⟩ := hS.facts (a := 0) (b := 0) (c := 0) rfl rfl rfl)
    | (go_at_call 18; (with_reducible refine (FI.out _ hS.bel).mono ?_); rintro e w3 ⟨rfl, hb⟩; replace hS := hS.below hb; clear hb; clear t0 t1 o0 x0 x1 x2 ee fx0 fx1 fx2 fe hz; obtain ⟨⟨t0, t1, o0⟩, ⟨x0, x1, x2⟩, ee, ⟨fx0, fx1, fx2, fe⟩, hz⟩ := hS.facts (a := 0) (b := 0) (c := 0) rfl rfl rfl)
    | (go_at_call 40; have hSe := hS.setE 0; (with_reducible refine (WH.out _ hSe.bel).mono ?_); rintro e w4 ⟨rfl, hb⟩; replace hS := hSe.below hb; clear hb hSe; clear t0 t1 o0 x0 x1 x2 ee fx0 fx1 fx2 fe hz; obtain ⟨⟨t0, t1, o0⟩, ⟨x0, x1, x2⟩, ee, ⟨fx0, fx1, fx2, fe⟩, hz⟩ := hS.facts (a := 0) (b := 0) (c := 0) rfl rfl rfl; have HWD := True.intro)
    | (go_at_call 41; (with_reducible refine (IX.out _ hS.bel o0 x2).mono ?_); rintro e wi ⟨rfl, hb⟩; replace hS := hS.below hb; clear hb; clear t0 t1 o0 x0 x1 x2 ee fx0 fx1 fx2 fe hz; obtain ⟨⟨t0, t1, o0⟩, ⟨x0, x1, x2⟩, ee, ⟨fx0, fx1, fx2, fe⟩, hz⟩ := hS.facts (a := 1) (b := b) (c := d) rfl rfl rfl)
    | (go_at_call 13; (with_reducible refine (AL.out _ hS.bel).mono ?_); rintro e wa ⟨rfl, hb⟩; replace hS := hS.below hb; clear hb; clear t0 t1 o0 x0 x1 x2 ee fx0 fx1 fx2 fe hz; obtain ⟨⟨t0, t1, o0⟩, ⟨x0, x1, x2⟩, ee, ⟨fx0, fx1, fx2, fe⟩, hz⟩ := hS.facts (a := 1) (b := b) (c := d) rfl rfl rfl; have HAL := True.intro))
  have hS2 := hS.setE E
  refine leaves_cons (f := 36) (args := #[.pointer (some ⟨w.heap.size + 2, 0, none⟩), .pointer (some ⟨w.heap.size + 3, 0, none⟩)]) (by simp) (by simp [go_sem]) ?_
  refine (next1_panic (w.heap.size + 2) (w.heap.size + 3) _ _ E (Fw.len (by simp [homeF, zeroF, zeroD])) _ hS2.2.2.2.1 hS2.2.2.2.2 (by omega) w.heap.size (by omega)).mono ?_
  rintro e u' w'' ⟨rfl, rfl, hb, q1, q2⟩
  have hB := hS2.1.trans hb
  exact leaves_end (ret_next _ _ (w.heap.size + 2) (zeroF.cells) E (Fw.len (by simp [zeroF, zeroD])) rfl rfl q1 q2) ⟨rfl, hB⟩
set_option maxRecDepth 100000 in
set_option maxHeartbeats 4000000 in
theorem next_full (l : List Lx) (n : Int) (A : Option Addr) (c : Nat) (keys : List Int) (Ak : Option Addr) (ck : Nat) (s : Int) (en : List En) (Ae : Option Addr) (ce : Nat) (people office al day time r : Int) (w : World) (hT : TabOK w) (hl : SlX w w.heap.size (.slice A l.length c) l) (hk : SlI w w.heap.size (.slice Ak keys.length ck) keys) (he : SlE w w.heap.size (.slice Ae en.length ce) en) (ht0 : ttE l n = 0) (hc0 : chkK l keys s people office = 0) (q : Int) (hf : findV s people office al = (q, true)) (b d : Int) (hw : whereH en q day time = (1, b, d)) (hE : openE en q day time = 0) (hd : d ≠ office) (k : Nat) (hi : idxO l office d = some k) (hA : ckE s d (idP b) = 0) :
    Calls Tryz.prog 11 #[ttV n (.slice A l.length c), .slice Ak keys.length ck, .int .i64 s, .slice Ae en.length ce, .int .i64 people, .int .i64 office, .int .i64 al, .int .i64 day, .int .i64 time, .int .i64 r] w fun e w' => e = .returned (fwV (fullF (1, b, d) k (keys.getD k default) (aliasA s b d) r) 0) ∧ Below w.heap.size w w' := by
  have htt := fun (W : World) (hb : Below w.heap.size w W) => tt_any l n (.slice A l.length c) W (hl.below hb)
  rw [ht0] at htt
  have TT := Lib.hid htt
  have hck : ∀ W, Below w.heap.size w W → Calls Tryz.prog 39 #[.agg #[.int .i64 n, .slice A l.length c], .slice Ak keys.length ck, .int .i64 s, .int .i64 people, .int .i64 office] W fun e w' => e = .returned (.tuple #[]) ∧ Below W.heap.size W w' := fun W hb =>
    (check_main n A l.length c Ak keys.length ck keys s people office W ((hk.below hb).mono hb.size) 0 hc0).mono (by
      rintro e w' ⟨h | h, hb'⟩
      · exact ⟨h.2, hb'⟩
      · exact absurd rfl h.1)
  have CK := Lib.hid hck
  have hfi := fun (W : World) (hb : Below w.heap.size w W) => find_any s people office al W (hT.below hb)
  rw [(chkK_0 hc0).2.2.1, hf] at hfi
  have FI := Lib.hid hfi
  have hwh := fun (W : World) (hb : Below w.heap.size w W) => where_any en (.slice Ae en.length ce) q day time W ((he.below hb).mono hb.size)
  rw [hw, hE] at hwh
  have WH := Lib.hid hwh
  have hix := fun (W : World) (hb : Below w.heap.size w W) (e2 : W.cell? ⟨w.heap.size + 1, 0, none⟩ = some (.int .i64 office)) (e3 : W.cell? ⟨w.heap.size + 2, 2, none⟩ = some (.int .i64 d)) => index_any l (.slice A l.length c) office d (w.heap.size + 1) (w.heap.size + 2) W (hl.below hb) (ttE_len ht0) e2 e3
  rw [hi] at hix
  simp only [optI] at hix
  have kneg : decide ((k : Int) < 0) = false := decide_eq_false (by omega)
  have IX := Lib.hid hix
  obtain ⟨hkl, hkv, _⟩ := chkK_0 hc0
  obtain ⟨hk1, hk2, _⟩ := findK_is hi
  have hl64 := (ttE_0 ht0).1
  have hkk : k < keys.length := by omega
  have hvk := all_at hkv hkk
  have hbd : 1 ≤ aliasA s b d ∧ aliasA s b d ≤ 1073741789 := by unfold aliasA; rw [if_pos hA]; exact aliasN_bd s b d
  obtain ⟨_, Ak', ck', hvv, hkE⟩ := id hk
  obtain ⟨kb, ko, rfl, hkb, hkE⟩ := hkE (by omega)
  cases hvv
  have hkc := CellsG.int hkE hkk
  have hmk := fun (W : World) (hb : Below w.heap.size w W) => omake_any k (keys.getD k default) (aliasA s b d) r (by omega) hvk hbd W (hT.below hb)
  have hful := fun (W : World) (E : Int) (h : NxS w W n (.slice A l.length c) office (homeF (1, b, d)) E) => h.setX (fullF (1, b, d) k (keys.getD k default) (aliasA s b d) r)
  rw [fullF_cells] at hful
  have h36 : (makeC k (keys.getD k default) (aliasA s b d) r).length = 36 := retC_len (by rw [List.length_map]; exact tagN_len _ _ _ _)
  have hone : ∀ v ∈ makeC k (keys.getD k default) (aliasA s b d) r, v.oneCell' = true := one_cells (one_bv _) _ _ _ _
  have hFL : (fullF (1, b, d) k (keys.getD k default) (aliasA s b d) r).cells.length = 39 := Fw.len (tagN_len _ _ _ _)
  have s1 : (0 : Int) ≤ (k : Int) := by omega
  have s2 : (k : Int) < (keys.length : Int) := by omega
  obtain ⟨FF, hFF⟩ : ∃ x, fullF (1, b, d) k (keys.getD k default) (aliasA s b d) r = x := ⟨_, rfl⟩
  rw [hFF] at hful hFL
  obtain ⟨MC, hMC⟩ : ∃ x, makeC k (keys.getD k default) (aliasA s b d) r = x := ⟨_, rfl⟩
  rw [hMC] at hful h36 hone hmk
  obtain ⟨key, hkey⟩ : ∃ x, keys.getD k default = x := ⟨_, rfl⟩
  rw [hkey] at hkc hmk
  have hal := fun (W : World) (hb : Below w.heap.size w W) => alias_any s b d W (hT.below hb)
  rw [hA] at hal
  obtain ⟨AV, hAV⟩ : ∃ x, aliasA s b d = x := ⟨_, rfl⟩
  rw [hAV] at hal
  have AL := Lib.hid hal
  rw [hAV] at hmk
  have MK := Lib.hid hmk
  have FUL := Lib.hid hful
  have HL36 := Lib.hid h36
  have HON := Lib.hid hone
  have HFL := Lib.hid hFL
  have HFF := Lib.hid hFF
  have KC := Lib.hid (fun (W : World) (hb : Below w.heap.size w W) => (hb.cell (p := ⟨kb, ko + k, none⟩) hkb).trans hkc)
  have z2 : (d == office) = false := beq_eq_false_iff_ne.2 hd
  clear hd
  clear htt hck hfi hwh hix hi hf hc0 ht0 hT hl hk he hw hE hal hA hAV hmk hful h36 hone hFL hFF hkc hkE hkey hMC hvk hbd hkk hl64 hk1 hk2 hkl hkv
  have hinf : Hid ((Tryz.prog.info? 38).map (·.size) = some 39) := Lib.hid (by kernel_rfl)
  go_enter_defers Tryz.func11, Tryz.ntmps11
  go_upto_region 1 with fail
  have hS := nx_start w n (.slice A l.length c) office
  obtain ⟨W, hW⟩ : ∃ W, ((((w.alloc (.cells #[.int .i64 n, .slice A l.length c] 24)).alloc (.cells #[.int .i64 office] 3)).alloc (.cells zeroF.cells.toArray 38)).alloc (.cells #[.int .i64 0] 39)) = W := ⟨_, rfl⟩
  rw [hW] at hS
  refine (show _ = W from hW) ▸ ?_
  clear hW
  obtain ⟨⟨t0, t1, o0⟩, ⟨x0, x1, x2⟩, ee, ⟨fx0, fx1, fx2, fe⟩, hz⟩ := hS.facts (a := 0) (b := 0) (c := 0) rfl rfl rfl
  have hmf : ∀ (fn : Fn) (first cap : Array Value) (w : World), (Instr.makeFunc fn first cap).run Tryz.prog w = .ok (.func fn first cap) w := fun _ _ _ _ => rfl
  go_wp2_with (first
    | (go_at_call 38; (with_reducible refine (TT.out _ hS.bel).mono ?_); rintro e w1 ⟨rfl, hb⟩; replace hS := hS.below hb; clear hb; clear t0 t1 o0 x0 x1 x2 ee fx0 fx1 fx2 fe hz; obtain ⟨⟨t0, t1, o0⟩, ⟨x0, x1, x2⟩, ee, ⟨fx0, fx1, fx2, fe⟩, hz⟩ := hS.facts (a := 0) (b := 0) (c := 0) rfl rfl rfl)
    | (have := HWD; go_at_call 37; (with_reducible refine (must_ok _).mono ?_); rintro e wm ⟨rfl, hwm⟩; replace hS : NxS w wm n (.slice A l.length c) office (homeF (1, b, d)) 0 := (by rw [hwm]; exact (hS.home (1, b, d)).setE 0); clear this HWD hwm; clear t0 t1 o0 x0 x1 x2 ee fx0 fx1 fx2 fe hz; obtain ⟨⟨t0, t1, o0⟩, ⟨x0, x1, x2⟩, ee, ⟨fx0, fx1, fx2, fe⟩, hz⟩ := hS.facts (a := 1) (b := b) (c := d) rfl rfl rfl)
    | (have := HAL; go_at_call 37; (with_reducible refine (must_ok _).mono ?_); rintro e wm2 ⟨rfl, hwm⟩; replace hS : NxS w wm2 n (.slice A l.length c) office (homeF (1, b, d)) 0 := (by rw [hwm]; exact hS.setE 0); clear this HAL hwm; have kc := KC.out wm2 hS.bel; clear t0 t1 o0 x0 x1 x2 ee fx0 fx1 fx2 fe hz; obtain ⟨⟨t0, t1, o0⟩, ⟨x0, x1, x2⟩, ee, ⟨fx0, fx1, fx2, fe⟩, hz⟩ := hS.facts (a := 1) (b := b) (c := d) rfl rfl rfl)
    | (have := HMK; go_at_call 37; (with_reducible refine (must_ok _).mono ?_); rintro e wm3 ⟨rfl, hwm⟩; replace hS : NxS w wm3 n (.slice A l.length c) office FF 0 := (by rw [hwm]; exact hS.setE 0); clear this HMK hwm t0 t1 o0 x0 x1 x2 ee fx0 fx1 fx2 fe hz hst; have fe := hS.2.2.2.2.frozen 0; have ee : wm3.cell? ⟨w.heap.size + 3, 0, none⟩ = some (.int .i64 0) := hS.2.2.2.2.cell 0; obtain ⟨XC, hXC⟩ : ∃ XC, FF.cells = XC := ⟨_, rfl⟩; have hR2 : Row wm3 (w.heap.size + 2) 38 XC := hXC ▸ hS.2.2.2.1; have hlx : XC.length = 39 := hXC ▸ HFL.out; have hst := store_self (hXC ▸ Fw.one FF) hR2; have HXC := Lib.hid hXC; clear hXC)
    | (go_at_call 37; (with_reducible refine (must_ok _).mono ?_); rintro e wm ⟨rfl, rfl⟩)
    | (go_at_call 39; (with_reducible refine (CK.out _ hS.bel).mono ?_); rintro e w2 ⟨rfl, hb⟩; replace hS := hS.below hb; clear hb; clear t0 t1 o0 x0 x1 x2 ee fx0 fx1 fx2 fe hz; obtain ⟨⟨t0, t1, o0⟩, ⟨x0, x1, x2⟩, ee, ⟨fx0, fx1, fx2, fe⟩, hz⟩ := hS.facts (a := 0) (b := 0) (c := 0) rfl rfl rfl)
    | (go_at_call 18; (with_reducible refine (FI.out _ hS.bel).mono ?_); rintro e w3 ⟨rfl, hb⟩; replace hS := hS.below hb; clear hb; clear t0 t1 o0 x0 x1 x2 ee fx0 fx1 fx2 fe hz; obtain ⟨⟨t0, t1, o0⟩, ⟨x0, x1, x2⟩, ee, ⟨fx0, fx1, fx2, fe⟩, hz⟩ := hS.facts (a := 0) (b := 0) (c := 0) rfl rfl rfl)
    | (go_at_call 40; have hSe := hS.setE 0; (with_reducible refine (WH.out _ hSe.bel).mono ?_); rintro e w4 ⟨rfl, hb⟩; replace hS := hSe.below hb; clear hb hSe; clear t0 t1 o0 x0 x1 x2 ee fx0 fx1 fx2 fe hz; obtain ⟨⟨t0, t1, o0⟩, ⟨x0, x1, x2⟩, ee, ⟨fx0, fx1, fx2, fe⟩, hz⟩ := hS.facts (a := 0) (b := 0) (c := 0) rfl rfl rfl; have HWD := True.intro)
    | (go_at_call 41; (with_reducible refine (IX.out _ hS.bel o0 x2).mono ?_); rintro e wi ⟨rfl, hb⟩; replace hS := hS.below hb; clear hb; clear t0 t1 o0 x0 x1 x2 ee fx0 fx1 fx2 fe hz; obtain ⟨⟨t0, t1, o0⟩, ⟨x0, x1, x2⟩, ee, ⟨fx0, fx1, fx2, fe⟩, hz⟩ := hS.facts (a := 1) (b := b) (c := d) rfl rfl rfl)
    | (go_at_call 13; (with_reducible refine (AL.out _ hS.bel).mono ?_); rintro e wa ⟨rfl, hb⟩; replace hS := hS.below hb; clear hb; clear t0 t1 o0 x0 x1 x2 ee fx0 fx1 fx2 fe hz; obtain ⟨⟨t0, t1, o0⟩, ⟨x0, x1, x2⟩, ee, ⟨fx0, fx1, fx2, fe⟩, hz⟩ := hS.facts (a := 1) (b := b) (c := d) rfl rfl rfl; have HAL := True.intro)
    | (go_at_call 43; (with_reducible refine (MK.out _ hS.bel).mono ?_); rintro e wk ⟨rfl, hb⟩; replace hS := hS.below hb; clear hb kc; have hst := full_store hS.2.2.2.1 HL36.out HON.out; have hS7 := FUL.out _ _ hS; clear hS; generalize wk.setRow (w.heap.size + 2) (([.int .i64 1, .int .i64 b, .int .i64 d] : List Value) ++ MC).toArray = W7 at *; have hS := hS7; clear hS7 t0 t1 o0 x0 x1 x2 ee fx0 fx1 fx2 fe hz; have hz := hS.2.2.2.2.lt; have t0 := True.intro; have t1 := t0; have o0 := t0; have x0 := t0; have x1 := t0; have x2 := t0; have fx0 := t0; have fx1 := t0; have fx2 := t0; have fe := hS.2.2.2.2.frozen 0; have ee : W7.cell? ⟨w.heap.size + 3, 0, none⟩ = some (.int .i64 0) := hS.2.2.2.2.cell 0; have HMK := True.intro)
    | (refine wpList_load_row rfl 38 (.tmp 20) rfl (w.heap.size + 2) rfl 38 _ (0, 0) _ hR2 Tryz.underlying38 rfl (by rw [hinf.out]; simp [hlx]) ?_))
  replace hS := hS.setE 0
  refine leaves_cons (f := 36) (args := #[.pointer (some ⟨w.heap.size + 2, 0, none⟩), .pointer (some ⟨w.heap.size + 3, 0, none⟩)]) (by simp) (by simp [go_sem]) ?_
  refine (next1_idle (w.heap.size + 2) (w.heap.size + 3) _).mono ?_
  rintro e u' w'' ⟨rfl, rfl, rfl⟩
  have q2 := hS.2.2.2.2
  have q1 : Row _ (w.heap.size + 2) 38 FF.cells := hS.2.2.2.1
  exact leaves_end (ret_next _ _ (w.heap.size + 2) (FF.cells) 0 (HFL.out) rfl rfl q1 q2) ⟨by rw [HFF.out], hS.1⟩
end Go.Proofs.YthckledagggoiaaGreatDoor

set_option linter.unusedSimpArgs false
set_option linter.unusedVariables false
namespace Go.Proofs.YthckledagggoiaaGreatDoor
open Go.RowKit Go.Shelf Fk Sha
/-! forward.Next -/
set_option maxHeartbeats 1000000 in
theorem next_any (l : List Lx) (n : Int) (v : Value) (keys : List Int) (kv : Value) (s : Int) (en : List En) (ev : Value) (people office al day time r : Int) (w : World) (hT : TabOK w) (hl : SlX w w.heap.size v l) (hk : SlI w w.heap.size kv keys) (he : SlE w w.heap.size ev en) :
    Calls Tryz.prog 11 #[ttV n v, kv, .int .i64 s, ev, .int .i64 people, .int .i64 office, .int .i64 al, .int .i64 day, .int .i64 time, .int .i64 r] w
      fun e w' => e = .returned (fwV (nextR l n keys s en people office al day time r).1 (nextR l n keys s en people office al day time r).2) ∧ Below w.heap.size w w' := by
  obtain ⟨A, c, rfl⟩ : ∃ A c, v = .slice A l.length c := by obtain ⟨⟨_, A, c, h, _⟩, _⟩ := hl; exact ⟨A, c, h⟩
  obtain ⟨Ak, ck, rfl⟩ : ∃ A c, kv = .slice A keys.length c := by obtain ⟨_, A, c, h, _⟩ := hk; exact ⟨A, c, h⟩
  obtain ⟨Ae, ce, rfl⟩ : ∃ A c, ev = .slice A en.length c := by obtain ⟨_, A, c, h, _⟩ := he; exact ⟨A, c, h⟩
  unfold nextR
  by_cases h1 : ttE l n = 0
  · rw [if_neg (by simp [h1])]
    by_cases h2 : chkK l keys s people office = 0
    · rw [if_neg (by simp [h2])]
      obtain ⟨q, bq⟩ : ∃ q, findV s people office al = q := ⟨_, rfl⟩
      obtain ⟨q, fb⟩ := q
      rw [bq]
      cases fb with
      | false =>
        rw [if_pos rfl]
        exact next_find l n A c keys Ak ck s en Ae ce people office al day time r w hT hl hk he h1 h2 q bq
      | true =>
        rw [if_neg (by simp)]
        simp only
        obtain ⟨h, hw⟩ : ∃ h, whereH en q day time = h := ⟨_, rfl⟩
        obtain ⟨a, b, d⟩ := h
        by_cases h3 : openE en q day time = 0
        · rw [if_neg (by simp [h3]), hw]
          unfold moreR
          by_cases h4 : a ≠ 1
          · rw [if_pos (.inl h4)]
            exact next_home1 l n A c keys Ak ck s en Ae ce people office al day time r w hT hl hk he h1 h2 q bq a b d hw h3 h4
          · by_cases h5 : d = office
            · rw [if_pos (.inr h5)]
              obtain rfl : a = 1 := by omega
              exact next_home2 l n A c keys Ak ck s en Ae ce people office al day time r w hT hl hk he h1 h2 q bq 1 b d hw h3 rfl h5
            · rw [if_neg (fun h => h.elim (fun x => h4 x) (fun x => h5 x))]
              obtain rfl : a = 1 := by omega
              simp only
              cases hi : idxO l office d with
              | none => exact next_hold l n A c keys Ak ck s en Ae ce people office al day time r w hT hl hk he h1 h2 q bq b d hw h3 h5 hi
              | some k =>
                simp only
                by_cases h6 : ckE s d (idP b) = 0
                · rw [if_neg (by simp [h6])]
                  exact next_full l n A c keys Ak ck s en Ae ce people office al day time r w hT hl hk he h1 h2 q bq b d hw h3 h5 k hi h6
                · rw [if_pos h6]
                  exact next_noalias l n A c keys Ak ck s en Ae ce people office al day time r w hT hl hk he h1 h2 q bq b d hw h3 h5 k hi _ rfl h6
        · rw [if_pos h3]
          exact next_where l n A c keys Ak ck s en Ae ce people office al day time r w hT hl hk he h1 h2 q bq a b d hw _ rfl h3
    · rw [if_pos h2]
      exact next_chk l n A c keys Ak ck s en Ae ce people office al day time r w hT hl hk he h1 _ rfl h2
  · rw [if_pos h1]
    exact next_tt l n A c keys Ak ck s en Ae ce people office al day time r w hT hl hk he _ rfl h1
end Go.Proofs.YthckledagggoiaaGreatDoor
