import Derived.Test.YtlbnbginippjfaaRef47P
/-! Numbers modulo Q as a field; Lagrange's interpolation at 0. -/
namespace Fk
abbrev FQ := Fin 1073741789
def toF (a : Int) : FQ := ⟨(a % 1073741789).toNat, by omega⟩
theorem toF_iff {a b : Int} : toF a = toF b ↔ a % 1073741789 = b % 1073741789 := by
  unfold toF; rw [Fin.mk.injEq]; omega
theorem toF_mod (a : Int) : toF (a % 1073741789) = toF a := toF_iff.2 (by omega)
theorem toF_add (a b : Int) : toF (a + b) = toF a + toF b := by
  apply Fin.ext
  show ((a + b) % 1073741789).toNat = ((a % 1073741789).toNat + (b % 1073741789).toNat) % 1073741789
  omega
theorem toF_mul (a b : Int) : toF (a * b) = toF a * toF b := by
  apply Fin.ext
  show ((a * b) % 1073741789).toNat = ((a % 1073741789).toNat * (b % 1073741789).toNat) % 1073741789
  have e : (((a % 1073741789).toNat * (b % 1073741789).toNat % 1073741789 : Nat) : Int) = (a * b) % 1073741789 := by
    rw [Int.natCast_emod, Int.natCast_mul, Int.toNat_of_nonneg (by omega), Int.toNat_of_nonneg (by omega)]
    rw [Int.mul_emod a b]; rfl
  omega
theorem toF_zero : toF 0 = 0 := rfl
theorem toF_one : toF 1 = 1 := rfl
theorem toF_neg (a : Int) : toF (-a) = - toF a := by
  have h := toF_add a (-a)
  rw [Int.add_right_neg, toF_zero] at h
  grind
theorem toF_sub (a b : Int) : toF (a - b) = toF a - toF b := by
  rw [Int.sub_eq_add_neg, toF_add, toF_neg]; grind
theorem toF_eq0 {a : Int} : toF a = 0 ↔ a % 1073741789 = 0 := by
  rw [← toF_zero, toF_iff]; omega
theorem toF_val {a : Int} (h : 0 ≤ a) (h' : a < 1073741789) : (((toF a).val : Nat) : Int) = a := by
  show (((a % 1073741789).toNat : Nat) : Int) = a
  omega

def ex1 : Nat := 1073741788
def exh : Nat := 536870894
theorem fermat_gen {p a h : Nat} (hp : IsP p) (ho : p % 2 = 1) (ha : a % p ≠ 0) (h2 : 2 < p) (hh : p / 2 = h) : a ^ (h + h) % p = 1 := by
  have he := euler hp ho ha
  rw [hh] at he
  rw [Nat.pow_add, Nat.mul_mod, he]
  cases jac a p
  · obtain ⟨q, rfl⟩ : ∃ q, p = q + 2 := ⟨p - 2, by omega⟩
    have e : (q + 2 - 1) * (q + 2 - 1) = 1 + (q + 2) * q := by
      have e1 : q + 2 - 1 = q + 1 := by omega
      rw [e1]; grind
    simp only [Bool.false_eq_true, if_false]
    rw [e, Nat.add_mul_mod_self_left, Nat.mod_eq_of_lt (by omega)]
  · simp only [if_true]
    rw [Nat.mod_eq_of_lt (by omega)]
theorem fermat {a : Nat} (h : a % 1073741789 ≠ 0) : a ^ ex1 % 1073741789 = 1 := by
  have e : ex1 = exh + exh := rfl
  rw [e]
  exact fermat_gen isP_Q (by omega) h (by omega) rfl
/-- the inverse -/
def invF (a : FQ) : FQ := toF (pwQ (a.val : Int) 1073741787)
theorem mul_invF {a : FQ} (h : a ≠ 0) : a * invF a = 1 := by
  have hv : a.val % 1073741789 ≠ 0 := by
    rw [Nat.mod_eq_of_lt a.isLt]
    intro hc; exact h (Fin.ext hc)
  have h1 := fermat hv
  have h2 : pwQ (a.val : Int) 1073741787 = ((a.val ^ ex2 % 1073741789 : Nat) : Int) := rfl
  have e : a = toF (a.val : Int) := by
    apply Fin.ext; show a.val = ((a.val : Int) % 1073741789).toNat
    have := a.isLt; omega
  unfold invF
  conv => lhs; lhs; rw [e]
  rw [← toF_mul, ← toF_one]
  refine toF_iff.2 ?_
  rw [h2]
  have h3 : a.val * (a.val ^ ex2 % 1073741789) % 1073741789 = 1 := by
    rw [Nat.mul_mod_mod, Nat.mul_comm, ← Nat.pow_succ]; exact h1
  rw [← Int.natCast_mul]
  omega
theorem toF_pw {a : Int} (h : 0 ≤ a) (h' : a < 1073741789) : toF (pwQ a 1073741787) = invF (toF a) := by
  unfold invF; rw [toF_val h h']
theorem mul0F {a b : FQ} (h : a * b = 0) : a = 0 ∨ b = 0 := by
  by_cases ha : a = 0
  · exact .inl ha
  · have := mul_invF ha
    right
    grind
theorem invF_mul {a b : FQ} (ha : a ≠ 0) (hb : b ≠ 0) : invF (a * b) = invF a * invF b := by
  have h1 := mul_invF ha
  have h2 := mul_invF hb
  have h3 := mul_invF (a := a * b) (fun h => (mul0F h).elim ha hb)
  generalize invF a = u at *
  generalize invF b = v at *
  generalize invF (a * b) = t at *
  have : t * (a * u) * (b * v) = u * v * (a * b * t) := by grind
  rw [h1, h2, h3] at this
  grind
theorem invF_one : invF 1 = 1 := by
  have h := mul_invF (a := 1) (by decide)
  grind

/-! ### interpolation at 0 -/
def WF (b : FQ) : List FQ → FQ
  | [] => 1
  | t :: r => if t = b then WF b r else t * invF (t - b) * WF b r
def LF (f : FQ → FQ) (T : List FQ) : List FQ → FQ
  | [] => 0
  | b :: r => f b * WF b T + LF f T r
theorem LF_lin (f g : FQ → FQ) (c d : FQ) (T : List FQ) : ∀ S, LF (fun x => c * f x + d * g x) T S = c * LF f T S + d * LF g T S
  | [] => by simp only [LF]; grind
  | b :: r => by simp only [LF]; rw [LF_lin f g c d T r]; grind
theorem LF_congr {f g : FQ → FQ} {T : List FQ} : ∀ S, (∀ b, b ∈ S → f b = g b) → LF f T S = LF g T S
  | [], _ => rfl
  | b :: r, h => by
    simp only [LF]
    rw [h b (by simp), LF_congr r (fun c hc => h c (by simp [hc]))]
theorem LF_W {f : FQ → FQ} {T T' : List FQ} : ∀ S, (∀ b, WF b T = WF b T') → LF f T S = LF f T' S
  | [], _ => rfl
  | b :: r, h => by
    simp only [LF]
    rw [h b, LF_W r h]
theorem WF_swap (x a b : FQ) (T : List FQ) : WF x (a :: b :: T) = WF x (b :: a :: T) := by
  simp only [WF]
  split <;> split <;> grind
theorem LF_swap (f : FQ → FQ) (a b : FQ) (T : List FQ) : LF f (a :: b :: T) (a :: b :: T) = LF f (b :: a :: T) (b :: a :: T) := by
  rw [LF_W (T := a :: b :: T) (T' := b :: a :: T) _ (fun x => WF_swap x a b T)]
  simp only [LF]; grind
theorem LF_B (a : FQ) (q : FQ → FQ) (T : List FQ) : ∀ S, (∀ b, b ∈ S → b ≠ a) → LF (fun x => (x - a) * q x) (a :: T) S = - a * LF q T S
  | [], _ => by simp only [LF]; grind
  | b :: r, h => by
    have ih := LF_B a q T r (fun c hc => h c (by simp [hc]))
    simp only [LF]
    rw [ih]
    have hab : a ≠ b := fun e => h b (by simp) e.symm
    have h1 : a - b ≠ 0 := fun e => hab (by grind)
    have h2 := mul_invF h1
    have e : WF b (a :: T) = a * invF (a - b) * WF b T := by simp only [WF]; rw [if_neg hab]
    rw [e]
    generalize invF (a - b) = u at *
    generalize WF b T = y
    generalize LF q T r = z
    generalize q b = v
    have : (b - a) * u = -1 := by grind
    have e2 : (b - a) * v * (a * u * y) = (b - a) * u * (v * a * y) := by grind
    rw [e2, this]
    grind
theorem L_B (a : FQ) (q : FQ → FQ) (S : List FQ) (h : ∀ b, b ∈ S → b ≠ a) : LF (fun x => (x - a) * q x) (a :: S) (a :: S) = - a * LF q S S := by
  have := LF_B a q S S h
  show (a - a) * q a * _ + _ = _
  rw [this]; grind
theorem L_one : ∀ (n : Nat) (S : List FQ), S.length = n + 1 → S.Nodup → LF (fun _ => 1) S S = 1
  | 0, S, h, _ => by
    match S, h with
    | [a], _ => simp only [LF, WF]; simp
  | n + 1, S, h, hn => by
    match S, h with
    | a :: b :: R, h =>
      rw [List.nodup_cons, List.nodup_cons] at hn
      obtain ⟨h1, h2, h3⟩ := hn
      have ha : ∀ x, x ∈ b :: R → x ≠ a := fun x hx e => h1 (e ▸ hx)
      have hb : ∀ x, x ∈ a :: R → x ≠ b := fun x hx e => by
        subst e
        rw [List.mem_cons] at hx
        rcases hx with hx | hx
        · exact h1 (by rw [hx]; simp)
        · exact h2 hx
      have i1 := L_one n (b :: R) (by simp at h ⊢; omega) (List.nodup_cons.2 ⟨h2, h3⟩)
      have i2 := L_one n (a :: R) (by simp at h ⊢; omega) (List.nodup_cons.2 ⟨fun hc => h1 (by simp [hc]), h3⟩)
      have e1 := L_B a (fun _ => 1) (b :: R) ha
      have e2 := L_B b (fun _ => 1) (a :: R) hb
      rw [i1] at e1
      rw [i2, ← LF_swap] at e2
      have e3 := LF_lin (fun x => (x - a) * 1) (fun x => (x - b) * 1) 1 (-1) (a :: b :: R) (a :: b :: R)
      have e4 := LF_lin (fun _ => 1) (fun _ => 1) (b - a) 0 (a :: b :: R) (a :: b :: R)
      rw [LF_congr (g := fun x => 1 * ((x - a) * 1) + -1 * ((x - b) * 1)) _ (fun x _ => by grind), e3, e1, e2] at e4
      have hab : b - a ≠ 0 := fun e => ha b (by simp) (by grind)
      have h5 := mul_invF hab
      generalize LF (fun _ => 1) (a :: b :: R) (a :: b :: R) = z at *
      generalize invF (b - a) = u at *
      have e5 : (b - a) * z = b - a := by grind
      have e6 : (b - a) * u * z = (b - a) * u := by grind
      rw [h5] at e6
      grind
def ev : List FQ → FQ → FQ
  | [], _ => 0
  | c :: r, x => c + x * ev r x
def dv (a : FQ) : List FQ → List FQ
  | [] => []
  | [_] => []
  | _ :: c :: r => ev (c :: r) a :: dv a (c :: r)
theorem dv_length (a : FQ) : ∀ p : List FQ, (dv a p).length = p.length - 1
  | [] => rfl
  | [_] => rfl
  | _ :: c :: r => by
    have := dv_length a (c :: r)
    simp only [dv, List.length_cons] at *
    omega
theorem dv_ev (a x : FQ) : ∀ p : List FQ, ev p x = ev p a + (x - a) * ev (dv a p) x
  | [] => by simp only [ev, dv]; grind
  | [c] => by simp only [ev, dv]; grind
  | d :: c :: r => by
    have ih := dv_ev a x (c :: r)
    have e1 : ev (d :: c :: r) x = d + x * ev (c :: r) x := rfl
    have e2 : ev (d :: c :: r) a = d + a * ev (c :: r) a := rfl
    have e3 : ev (dv a (d :: c :: r)) x = ev (c :: r) a + x * ev (dv a (c :: r)) x := rfl
    rw [e1, e2, e3, ih]
    grind
theorem LF_zero (T : List FQ) : ∀ S, LF (fun _ => 0) T S = 0
  | [] => rfl
  | b :: r => by simp only [LF]; rw [LF_zero T r]; grind
theorem lagrange : ∀ (n : Nat) (p S : List FQ), p.length ≤ n → p.length ≤ S.length → 0 < S.length → S.Nodup → LF (ev p) S S = ev p 0
  | n, [], S, _, _, _, _ => by
    exact LF_zero S S
  | n, [c], S, _, _, hS, hn => by
    have h1 := L_one (S.length - 1) S (by omega) hn
    have h2 := LF_lin (fun _ => 1) (fun _ => 1) c 0 S S
    rw [LF_congr (g := fun x => c * 1 + 0 * 1) _ (fun x _ => by simp only [ev]; grind), h2, h1]
    simp only [ev]; grind
  | 0, _ :: _ :: _, _, h, _, _, _ => by simp at h
  | n + 1, d :: c :: r, S, h, hl, hS, hn => by
    match S, hl, hS with
    | a :: S', hl, _ =>
      have hl' : (c :: r).length ≤ S'.length := by simp at hl ⊢; omega
      have ih := lagrange n (dv a (d :: c :: r)) S' (by rw [dv_length]; simp at h ⊢; omega) (by rw [dv_length]; exact hl') (by simp at hl'; omega) (List.nodup_cons.1 hn).2
      have h1 := L_one S'.length (a :: S') rfl hn
      have h2 := L_B a (ev (dv a (d :: c :: r))) S' (fun b hb e => (List.nodup_cons.1 hn).1 (e ▸ hb))
      have h3 := LF_lin (fun _ => 1) (fun x => (x - a) * ev (dv a (d :: c :: r)) x) (ev (d :: c :: r) a) 1 (a :: S') (a :: S')
      have e0 := dv_ev a 0 (d :: c :: r)
      rw [LF_congr (g := fun x => ev (d :: c :: r) a * 1 + 1 * ((x - a) * ev (dv a (d :: c :: r)) x)) _ (fun x _ => by have := dv_ev a x (d :: c :: r); grind), h3, h1, h2, ih, e0]
      grind
end Fk
