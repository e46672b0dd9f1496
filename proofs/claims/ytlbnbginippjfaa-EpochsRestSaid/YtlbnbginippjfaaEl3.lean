import Derived.Test.YtlbnbginippjfaaEl2
namespace Go.Proofs.Ytlbnbginippjfaa
open Go.RowKit Go.Shelf Fk
attribute [local go_sem] Oper.semAt_some

def ciV (bs k : Nat) : Array Value := #[.int .i64 (k : Int), .pointer (some ⟨bs, k * 2, none⟩)]
def ciVals (bs : Nat) : List (Array Value) := (List.range 3).map (ciV bs)
theorem ciVals_get (bs : Nat) {k : Nat} (h : k < 3) : (ciVals bs)[k]? = some (ciV bs k) := by
  unfold ciVals; rw [List.getElem?_map, List.getElem?_range h]; rfl
theorem ciVals_length (bs : Nat) : (ciVals bs).length = 3 := by simp [ciVals]
theorem ciVals_some {bs k : Nat} {v : Array Value} (h : (ciVals bs)[k]? = some v) : k < 3 ∧ v = ciV bs k := by
  have hk : k < 3 := by have := (List.getElem?_eq_some_iff.1 h).1; rwa [ciVals_length] at this
  rw [ciVals_get bs hk] at h
  exact ⟨hk, by injection h with h; exact h.symm⟩

set_option maxHeartbeats 1000000 in
theorem ciphers_seq (bs bc K : Nat) (m : Nat) (hm : 1 ≤ m) :
    SeqL Fence.wide m Try.prog 61 #[.pointer (some ⟨bc, 0, none⟩)] (ciVals bs)
      (fun _ => False) (fun r => r = bc) (fun W => Boxed W bc 71 (.pointer (some ⟨bs, 0, none⟩))) K := fun l J Jx W hT hsz hJ hJx hY h0 => by
  refine callsIn_of_wp Try.func61 rfl trivial ?_ rfl
  simp only [Try.ntmps61, List.size_toArray, List.length_cons, List.length_nil, Nat.reduceAdd, Nat.reduceSub, Array.replicate_succ, Array.replicate_zero, List.push_toArray, List.append_toArray, List.nil_append, List.cons_append]
  gi_wp2
  gi_loopw [4] (fun i wr => ∃ k : Nat, i = .int .i64 k ∧ k ≤ 3 ∧ Boxed wr bc 71 (.pointer (some ⟨bs, 0, none⟩)) ∧ J k wr ∧ K ≤ wr.heap.size) (fun i _ => 3 - (intOf i).toNat)
  case atStart => exact ⟨0, rfl, by omega, hT, h0, by omega⟩
  case round =>
    obtain ⟨k, rfl, hk, hB, hJk, hKw⟩ := hrel
    have c1 := hB.cell
    by_cases h3 : k < 3
    · have hv := ciVals_get bs h3
      obtain ⟨fn, tmps, assign, body, hy, hR⟩ := hY k _ wr hJk hKw hv
      unfold ciV at hy
      have s5 : (0 : Int) ≤ k := by omega
      have s6 : (k : Int) < 3 := by omega
      clear hv
      gi_wp2
      refine hR.mono ?_
      rintro e W3 (⟨rfl, hJ3, hS3, hz3⟩ | ⟨rfl, hJx3⟩)
      · have hB3 : Boxed W3 bc 71 (.pointer (some ⟨bs, 0, none⟩)) := (hS3 bc rfl).trans hB
        clear c1 hy hR hY
        gi_wp2
        refine ⟨⟨k + 1, by go_num, by omega, hB3, hJ3, by omega⟩, by simp [intOf]; omega⟩
      · clear hy hR hY
        gi_wp2
        refine bodyPost_ret (results_none rfl _ _ _) rfl ?_
        exact ⟨⟨_, rfl⟩, .inr ⟨k, by rw [ciVals_length]; exact h3, hJx3⟩⟩
    · obtain rfl : k = 3 := by omega
      gi_wp2
      go_end0
      exact ⟨⟨_, rfl⟩, .inl (by rw [ciVals_length]; exact hJk)⟩

set_option maxHeartbeats 400000 in
theorem ciphers_any (bs : Nat) (w : World) :
    Calls Try.prog 48 #[.pointer (some ⟨bs, 0, none⟩)] w fun e w' => e = .returned (.func (.func 61) #[] #[.pointer (some ⟨w.heap.size, 0, none⟩)]) ∧
      w.alloc (.cells #[.pointer (some ⟨bs, 0, none⟩)] 71) = w' := by
  go_enter Try.func48, Try.ntmps48
  go_wp2
  go_ret
  exact ⟨rfl, rfl⟩
end Go.Proofs.Ytlbnbginippjfaa
