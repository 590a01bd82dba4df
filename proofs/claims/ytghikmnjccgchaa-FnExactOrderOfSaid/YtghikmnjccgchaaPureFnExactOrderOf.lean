/- The law FnExactOrderOf answers true for every curve and every point. No condition. -/
import Derived.Test.YtghikmnjccgchaaSFnExactOrderOfx4
import Derived.Test.YtghikmnjccgchaaNT
import Derived.Test.YtghikmnjccgchaaED
namespace Go.Proofs.Ytghikmnjccgchaa.Pure
open Go.RowKit Go.Proofs.Ytghikmnjccgchaa.SFnExactOrderOf Go.Proofs.YtghikmnjccgchaaW.PrintWords Go.Proofs.YtghikmnjccgchaaW.PrintLast Go.Proofs.YtghikmnjccgchaaW.PrintMore
open Go.Proofs.Ytghikmnjccgchaa

theorem prime_same : ∀ (k : Nat) (x y : Int), impl_isPrime.l0 k x y = spec_l4Prime.l0 k x y := by
  intro k
  induction k with
  | zero => intro x y; rfl
  | succ k ih => intro x y; simp only [impl_isPrime.l0, spec_l4Prime.l0, ih]

theorem prime_loop (n : Nat) (hn : n ≤ 10007) : ∀ (t d : Nat), 2 ≤ d → d + t = 102 → (∀ e, 2 ≤ e → e < d → ¬ e ∣ n) →
    ∃ b, Ev (fun k => spec_l4Prime.l0 k (n : Int) (d : Int)) b ∧ (b = true ↔ NT.Pr n) := by
  intro t
  induction t with
  | zero =>
    intro d hd ht hno
    obtain rfl : d = 102 := by omega
    refine ⟨decide (n > 1), Ev.step (f := fun _ => some (decide (n > 1))) (fun k => ?_) (Ev.now _), ?_⟩
    · simp only [spec_l4Prime.l0]
      have hw : wrap64 (((102 : Nat) : Int) * ((102 : Nat) : Int)) = 10404 := by unfold wrap64; omega
      rw [hw, if_neg (by omega)]
      congr 1
      simp
      omega
    · rw [decide_eq_true_eq]
      refine ⟨fun h => ⟨h, fun e h2 h3 => ?_⟩, fun h => h.1⟩
      refine hno e h2 ?_
      apply Nat.lt_of_not_le
      intro hge
      have := Nat.mul_le_mul hge hge
      omega
  | succ t ih =>
    intro d hd ht hno
    have hw : wrap64 ((d : Int) * (d : Int)) = ((d * d : Nat) : Int) := by
      have h1 : d * d ≤ 102 * 102 := Nat.mul_le_mul (by omega) (by omega)
      have h2 : ((d * d : Nat) : Int) = (d : Int) * (d : Int) := by simp
      rw [← h2]
      unfold wrap64
      omega
    by_cases h1 : d * d ≤ n
    · have hm : Int.tmod (n : Int) (d : Int) = ((n % d : Nat) : Int) := by rw [Int.tmod_eq_emod_of_nonneg (by omega)]; simp
      by_cases h2 : n % d = 0
      · refine ⟨false, Ev.step (f := fun _ => some false) (fun k => ?_) (Ev.now _), ?_⟩
        · simp only [spec_l4Prime.l0]
          rw [hw, if_pos (by omega), if_neg (by omega), hm, if_pos (by omega)]
        · simp only [Bool.false_eq_true, false_iff]
          intro hp
          exact hp.2 d hd h1 (Nat.dvd_of_mod_eq_zero h2)
      · obtain ⟨b, hb, hiff⟩ := ih (d + 1) (by omega) (by omega) (by
          intro e he1 he2
          by_cases h3 : e = d
          · subst h3
            intro hdv
            exact h2 (Nat.mod_eq_zero_of_dvd hdv)
          · exact hno e he1 (by omega))
        refine ⟨b, Ev.step (fun k => ?_) hb, hiff⟩
        simp only [spec_l4Prime.l0]
        have hw2 : wrap64 ((d : Int) + 1) = ((d + 1 : Nat) : Int) := by unfold wrap64; omega
        rw [hw, if_pos (by omega), if_neg (by omega), hm, if_neg (by omega), hw2]
    · refine ⟨decide (n > 1), Ev.step (f := fun _ => some (decide (n > 1))) (fun k => ?_) (Ev.now _), ?_⟩
      · simp only [spec_l4Prime.l0]
        rw [hw, if_neg (by omega)]
        congr 1
        simp
        omega
      · rw [decide_eq_true_eq]
        refine ⟨fun h => ⟨h, fun e h2 h3 => ?_⟩, fun h => h.1⟩
        refine hno e h2 ?_
        apply Nat.lt_of_not_le
        intro hge
        have := Nat.mul_le_mul hge hge
        omega

theorem prime_ev (n : Nat) (hn : n ≤ 10007) : ∃ b, Ev (fun k => spec_l4Prime.f k (n : Int)) b ∧ Ev (fun k => impl_isPrime.f k (n : Int)) b ∧ (b = true ↔ NT.Pr n) := by
  obtain ⟨b, hb, hiff⟩ := prime_loop n hn 100 2 (by omega) (by omega) (fun e h1 h2 => by omega)
  refine ⟨b, hb, Ev.congr (fun k => ?_) hb, hiff⟩
  unfold impl_isPrime.f
  rw [prime_same]
  rfl


theorem power_same : ∀ (k : Nat) (x y z t : Int), impl_powerMod.l0 k x y z t = spec_l4Power.l0 k x y z t := by
  intro k
  induction k with
  | zero => intro x y z t; rfl
  | succ k ih => intro x y z t; simp only [impl_powerMod.l0, spec_l4Power.l0, ih]

theorem wrap_mul {x y p : Nat} (hx : x < p) (hy : y < p) (hp : p ≤ 10007) : Int.tmod (wrap64 ((x : Int) * (y : Int))) (p : Int) = ((x * y % p : Nat) : Int) := by
  have h1 : x * y ≤ 10007 * 10007 := Nat.mul_le_mul (by omega) (by omega)
  have h2 : ((x * y : Nat) : Int) = (x : Int) * (y : Int) := by simp
  have h3 : wrap64 ((x : Int) * (y : Int)) = ((x * y : Nat) : Int) := by rw [← h2]; unfold wrap64; omega
  rw [h3, Int.tmod_eq_emod_of_nonneg (by omega)]
  simp

theorem power_loop (p : Nat) (hp2 : 2 ≤ p) (hp : p ≤ 10007) : ∀ (e : Nat), e ≤ 1000000000 → ∀ (a n : Nat), a < p → n < p →
    Ev (fun k => spec_l4Power.l0 k (a : Int) (e : Int) (p : Int) (n : Int)) ((n * a ^ e % p : Nat) : Int) := by
  intro e
  induction e using Nat.strongRecOn with
  | _ e ih =>
    intro he a n ha hn
    by_cases h0 : e = 0
    · subst h0
      refine Ev.step (f := fun _ => some _) (fun k => ?_) (Ev.now _)
      simp only [spec_l4Power.l0]
      rw [if_neg (by omega), Nat.pow_zero, Nat.mul_one, Nat.mod_eq_of_lt hn]
    · have hdiv : wrap64 (Int.tdiv (e : Int) 2) = ((e / 2 : Nat) : Int) := by
        rw [Int.tdiv_eq_ediv_of_nonneg (by omega)]
        unfold wrap64
        omega
      have hmod : Int.tmod (e : Int) 2 = ((e % 2 : Nat) : Int) := by
        rw [Int.tmod_eq_emod_of_nonneg (by omega)]
        simp
      have hlt : ∀ x : Nat, x % p < p := fun x => Nat.mod_lt _ (by omega)
      have hee := Nat.div_add_mod e 2
      by_cases h1 : e % 2 = 1
      · have h2 := ih (e / 2) (by omega) (by omega) (a * a % p) (n * a % p) (hlt _) (hlt _)
        have e1 : n * a % p * (a * a % p) ^ (e / 2) % p = n * a ^ e % p := by
          rw [Nat.mul_mod, Nat.pow_mod, Nat.mod_mod, Nat.mod_mod, ← Nat.pow_mod, ← Nat.mul_mod, ← Nat.pow_two, ← Nat.pow_mul, Nat.mul_assoc, ← Nat.pow_succ']
          have : (2 * (e / 2)).succ = e := by omega
          rw [this]
        rw [e1] at h2
        refine Ev.step (fun k => ?_) h2
        simp only [spec_l4Power.l0]
        rw [if_pos (by omega), hmod, if_pos (by omega), if_neg (by omega), wrap_mul ha ha hp, wrap_mul hn ha hp, hdiv]
      · have h2 := ih (e / 2) (by omega) (by omega) (a * a % p) n (hlt _) hn
        have e1 : n * (a * a % p) ^ (e / 2) % p = n * a ^ e % p := by
          rw [Nat.mul_mod, Nat.pow_mod, Nat.mod_mod, ← Nat.pow_mod, ← Nat.mul_mod, ← Nat.pow_two, ← Nat.pow_mul]
          have : 2 * (e / 2) = e := by omega
          rw [this]
        rw [e1] at h2
        refine Ev.step (fun k => ?_) h2
        simp only [spec_l4Power.l0]
        rw [if_pos (by omega), hmod, if_neg (by omega), if_neg (by omega), wrap_mul ha ha hp, hdiv]

theorem power_ev (a e p : Nat) (hp2 : 2 ≤ p) (hp : p ≤ 10007) (he : e ≤ 1000000000) (ha : a < p) :
    Ev (fun k => spec_l4Power.f k (a : Int) (e : Int) (p : Int)) ((a ^ e % p : Nat) : Int) ∧ Ev (fun k => impl_powerMod.f k (a : Int) (e : Int) (p : Int)) ((a ^ e % p : Nat) : Int) := by
  have h := power_loop p hp2 hp e he a 1 ha (by omega)
  rw [Nat.one_mul] at h
  refine ⟨h, Ev.congr (fun k => ?_) h⟩
  unfold impl_powerMod.f
  rw [power_same]
  rfl


/-- the reference's kind of a number: 0, 1 or -1 -/
theorem kind_ev (a p : Nat) (hp : NT.Pr p) (h3 : 3 ≤ p) (h4 : p ≤ 10007) (ha : a < p) :
    ∃ r : Int, Ev (fun k => spec_l4Kind.f k (a : Int) (p : Int)) r ∧ Ev (fun k => impl_squareKind.f k (a : Int) (p : Int)) r ∧ (r = 0 ∨ r = 1 ∨ r = -1) ∧ (r = -1 ↔ a ≠ 0 ∧ a ^ ((p - 1) / 2) % p ≠ 1) := by
  obtain ⟨hs, hi⟩ := power_ev a ((p - 1) / 2) p (by omega) h4 (by omega) ha
  have hw : wrap64 (Int.tdiv (wrap64 ((p : Int) - 1)) 2) = (((p - 1) / 2 : Nat) : Int) := by
    have h1 : wrap64 ((p : Int) - 1) = (p : Int) - 1 := by unfold wrap64; omega
    rw [h1, Int.tdiv_eq_ediv_of_nonneg (by omega)]
    unfold wrap64
    omega
  unfold spec_l4Kind.f impl_squareKind.f
  rw [hw]
  by_cases h0 : a = 0
  · subst h0
    have e0 : 0 ^ ((p - 1) / 2) % p = 0 := by rw [Nat.zero_pow (by omega)]; exact Nat.zero_mod p
    rw [e0] at hs
    refine ⟨0, Ev.bind hs ?_, ?_, by omega, by simp⟩
    · simp only [Int.natCast_zero, if_true]
      exact Ev.now _
    · simp only [Int.natCast_zero, if_true]
      exact Ev.now _
  · have ha' : ¬ p ∣ a := fun hd => by have := Nat.le_of_dvd (by omega) hd; omega
    have hne : a ^ ((p - 1) / 2) % p ≠ 0 := fun h => hp.not_dvd_pow ha' _ (Nat.dvd_of_mod_eq_zero h)
    have ha0 : ¬ (a : Int) = 0 := by omega
    by_cases h1 : a ^ ((p - 1) / 2) % p = 1
    · rw [h1] at hs hi
      refine ⟨1, Ev.bind hs ?_, ?_, by omega, by simp [h1]⟩
      · simp only [Int.natCast_one, Int.one_ne_zero, if_true, if_false]
        exact Ev.now _
      · simp only [ha0, if_false]
        refine Ev.bind hi ?_
        simp only [Int.natCast_one, if_true]
        exact Ev.now _
    · refine ⟨-1, Ev.bind hs ?_, ?_, by omega, by simp [h1, h0]⟩
      · rw [if_neg (by omega), if_neg (by omega)]
        exact Ev.now _
      · simp only [ha0, if_false]
        refine Ev.bind hi ?_
        rw [if_neg (by omega)]
        exact Ev.now _


/-- a valid curve -/
def Cv (P D : Nat) : Prop := 5 ≤ P ∧ P ≤ 199 ∧ NT.Pr P ∧ 2 ≤ D ∧ D < P ∧ D ^ ((P - 1) / 2) % P ≠ 1

theorem in_ev (a lo hi : Int) : spec_l1In.f a lo hi = some (decide (lo ≤ a ∧ a ≤ hi)) := by
  unfold spec_l1In.f
  by_cases h : a ≥ lo
  · rw [if_pos h]; congr 1; simp; omega
  · rw [if_neg h]; congr 1; simp; omega
theorem within_ev (a lo hi : Int) : impl_within.f a lo hi = some (decide (lo ≤ a ∧ a ≤ hi)) := in_ev a lo hi

theorem curve_ev (p d : Int) : (∃ P D : Nat, p = (P : Int) ∧ d = (D : Int) ∧ Cv P D ∧ Ev (fun k => spec_GoodCurve.f k p d) true ∧ Ev (fun k => impl_isCurve.f k p d) true)
    ∨ (Ev (fun k => spec_GoodCurve.f k p d) false ∧ Ev (fun k => impl_isCurve.f k p d) false) := by
  unfold spec_GoodCurve.f impl_isCurve.f
  simp only [in_ev, within_ev, Option.bind_some]
  by_cases h1 : 5 ≤ p ∧ p ≤ 199
  · have hw : wrap64 (p - 1) = p - 1 := by unfold wrap64; omega
    simp only [h1, and_self, decide_true, if_true, hw]
    obtain ⟨P, rfl⟩ : ∃ m : Nat, p = (m : Int) := ⟨p.toNat, by omega⟩
    obtain ⟨b, hs, hi, hb⟩ := prime_ev P (by omega)
    cases b with
    | false =>
      right
      refine ⟨Ev.bind hs ?_, Ev.bind hi ?_⟩ <;> (simp only [Bool.false_eq_true, if_false]; exact Ev.now _)
    | true =>
      have hP := hb.mp rfl
      by_cases h2 : 2 ≤ d ∧ d ≤ (P : Int) - 1
      · obtain ⟨D, rfl⟩ : ∃ m : Nat, d = (m : Int) := ⟨d.toNat, by omega⟩
        obtain ⟨r, ks, ki, hr, hr1⟩ := kind_ev D P hP (by omega) (by omega) (by omega)
        by_cases h3 : r = -1
        · left
          obtain ⟨_, h4⟩ := hr1.mp h3
          subst h3
          refine ⟨P, D, rfl, rfl, ⟨by omega, by omega, hP, by omega, by omega, h4⟩, Ev.bind hs ?_, Ev.bind hi ?_⟩
          · simp only [h2, and_self, decide_true, if_true]
            exact Ev.bind ks (Ev.now _)
          · simp only [h2, and_self, decide_true, if_true]
            exact Ev.bind ki (Ev.now _)
        · right
          have e1 : (r == -1) = false := by simpa using h3
          have e2 : decide (r < 0) = false := by simp; omega
          refine ⟨Ev.bind hs ?_, Ev.bind hi ?_⟩
          · simp only [h2, and_self, decide_true, if_true]
            refine Ev.bind ks ?_
            rw [e1]
            exact Ev.now _
          · simp only [h2, and_self, decide_true, if_true]
            refine Ev.bind ki ?_
            rw [e2]
            exact Ev.now _
      · right
        refine ⟨Ev.bind hs ?_, Ev.bind hi ?_⟩ <;> (simp only [h2, decide_false, Bool.false_eq_true, if_false, if_true]; exact Ev.now _)
  · right
    simp only [h1, decide_false, Bool.false_eq_true, if_false]
    exact ⟨Ev.now _, Ev.now _⟩


theorem on_same (p d x y : Int) : impl_onCurve.f p d x y = spec_l5On.f p d x y := rfl
theorem on_some {p : Int} (hp : p ≠ 0) (d x y : Int) : ∃ b, spec_l5On.f p d x y = some b := by
  unfold spec_l5On.f
  rw [if_neg hp]
  exact ⟨_, rfl⟩

/-- whether a point is good, told by both sides -/
theorem good_ev {P D : Nat} (hc : Cv P D) (hs : Ev (fun k => spec_GoodCurve.f k (P : Int) (D : Int)) true) (x y : Int) : Ev (fun k => spec_l5Good.f k (P : Int) (D : Int) x y) (okP (P : Int) (D : Int) ⟨x, y⟩) := by
  have h1 := hc.1
  have h2 := hc.2.1
  have hw : wrap64 ((P : Int) - 1) = (P : Int) - 1 := by unfold wrap64; omega
  unfold spec_l5Good.f
  refine Ev.bind hs ?_
  unfold spec_l5Point.f okP
  simp only [in_ev, Option.bind_some, if_true, hw, on_same]
  obtain ⟨b, hb⟩ := on_some (p := (P : Int)) (by omega) D x y
  by_cases hx : 0 ≤ x ∧ x ≤ (P : Int) - 1
  · by_cases hy : 0 ≤ y ∧ y ≤ (P : Int) - 1
    · have e : (decide (0 ≤ x ∧ x ≤ (P : Int) - 1) && decide (0 ≤ y ∧ y ≤ (P : Int) - 1) && (spec_l5On.f (P : Int) D x y == some true)) = b := by
        rw [hb, decide_eq_true hx, decide_eq_true hy]
        cases b <;> rfl
      rw [e]
      simp only [hx, hy, and_self, decide_true, if_true, Option.bind_some, hb]
      exact Ev.now _
    · have e : (decide (0 ≤ x ∧ x ≤ (P : Int) - 1) && decide (0 ≤ y ∧ y ≤ (P : Int) - 1) && (spec_l5On.f (P : Int) D x y == some true)) = false := by
        rw [decide_eq_false hy]; simp
      rw [e]
      simp only [hx, hy, and_self, decide_true, decide_false, if_true, Option.bind_some, Bool.false_eq_true, if_false]
      exact Ev.now _
  · have e : (decide (0 ≤ x ∧ x ≤ (P : Int) - 1) && decide (0 ≤ y ∧ y ≤ (P : Int) - 1) && (spec_l5On.f (P : Int) D x y == some true)) = false := by
      rw [decide_eq_false hx]; simp
    rw [e]
    simp only [hx, decide_false, Option.bind_some, Bool.false_eq_true, if_false]
    exact Ev.now _
theorem good_no {p d : Int} (hs : Ev (fun k => spec_GoodCurve.f k p d) false) (x y : Int) : Ev (fun k => spec_l5Good.f k p d x y) false := by
  unfold spec_l5Good.f
  refine Ev.bind hs ?_
  simp only [Bool.false_eq_true, if_false]
  exact Ev.now _
theorem are_ev {p d : Int} {b : Bool} (hi : Ev (fun k => impl_isCurve.f k p d) b) (l : List S29) (hl : l.length ≤ 1000) : Ev (fun k => impl_arePoints.f k p d l) (b && !badP p d l) := by
  unfold impl_arePoints.f
  have hl' : ¬ 1000 < l.length := by omega
  simp only [hl', if_false]
  refine Ev.bind hi ?_
  cases b
  · simp only [Bool.false_eq_true, if_false, Bool.false_and]; exact Ev.now _
  · simp only [if_true, Bool.true_and]; exact Ev.now _
theorem bad1 (p d : Int) (a : S29) : badP p d [a] = !okP p d a := by simp [badP]
theorem bad2 (p d : Int) (a b : S29) : badP p d [a, b] = (!okP p d a || !okP p d b) := by simp [badP]


theorem wr {z : Int} {n : Nat} (h : z = (n : Int)) (hn : n ≤ 1000000) : wrap64 z = (n : Int) := by
  subst h
  unfold wrap64
  omega
theorem tm {z : Int} {n : Nat} (p : Nat) (h : z = (n : Int)) (hn : n ≤ 1000000) : Int.tmod (wrap64 z) (p : Int) = ((n % p : Nat) : Int) := by
  rw [wr h hn, Int.tmod_eq_emod_of_nonneg (by omega)]
  simp
/-- m of two points -/
def mN (P D x1 y1 x2 y2 : Nat) : Nat := D * x1 % P * x2 % P * y1 % P * y2 % P
def xN (P D x1 y1 x2 y2 : Nat) : Nat := (x1 * y2 + y1 * x2) % P * (((1 + mN P D x1 y1 x2 y2) % P) ^ (P - 2) % P) % P
def yN (P D x1 y1 x2 y2 : Nat) : Nat := (y1 * y2 % P + P - x1 * x2 % P) % P * (((1 + P - mN P D x1 y1 x2 y2) % P) ^ (P - 2) % P) % P
theorem mul_le {a b P : Nat} (hP : P ≤ 199) (ha : a < P) (hb : b < P) : a * b ≤ 199 * 199 := Nat.mul_le_mul (by omega) (by omega)
theorem inv_ev {P a : Nat} (h5 : 5 ≤ P) (h1 : P ≤ 199) (ha : a < P) : Ev (fun k => spec_l4Inverse.f k (a : Int) (P : Int)) ((a ^ (P - 2) % P : Nat) : Int) := by
  unfold spec_l4Inverse.f
  have e : wrap64 ((P : Int) - 2) = ((P - 2 : Nat) : Int) := wr (by omega) (by omega)
  rw [e]
  exact Ev.bind (power_ev a (P - 2) P (by omega) (by omega) (by omega) ha).1 (Ev.now _)

theorem s_d1 {P m : Nat} (h1 : P ≤ 199) (hm : m < P) : Int.tmod (wrap64 (1 + (m : Int))) (P : Int) = (((1 + m) % P : Nat) : Int) := tm P (by omega) (by omega)
theorem s_d2 {P m : Nat} (h1 : P ≤ 199) (hm : m < P) : Int.tmod (wrap64 (wrap64 (1 + (P : Int)) - (m : Int))) (P : Int) = (((1 + P - m) % P : Nat) : Int) := by
  have e : wrap64 (1 + (P : Int)) = ((1 + P : Nat) : Int) := wr (by omega) (by omega)
  rw [e]
  exact tm P (by omega) (by omega)
theorem s_n1 {P a b : Nat} (ha : a ≤ 39601) (hb : b ≤ 39601) : Int.tmod (wrap64 ((a : Int) + (b : Int))) (P : Int) = (((a + b) % P : Nat) : Int) := tm P (by omega) (by omega)
theorem s_w {P a b : Nat} (h1 : P ≤ 199) (ha : a < P) (hb : b < P) : wrap64 ((a : Int) * (b : Int)) = ((a * b : Nat) : Int) := wr (by simp) (Nat.le_trans (mul_le h1 ha hb) (by decide))
theorem s_n5 {P a b : Nat} (h1 : P ≤ 199) (ha : a < P) (hb : b < P) : Int.tmod (wrap64 (wrap64 ((a : Int) + (P : Int)) - (b : Int))) (P : Int) = (((a + P - b) % P : Nat) : Int) := by
  have e : wrap64 ((a : Int) + (P : Int)) = ((a + P : Nat) : Int) := wr (by omega) (by omega)
  rw [e]
  exact tm P (by omega) (by omega)
theorem mN_lt {P D x1 y1 x2 y2 : Nat} (hpos : 0 < P) : mN P D x1 y1 x2 y2 < P := by unfold mN; exact Nat.mod_lt _ hpos

theorem spec_add_ev {P D x1 y1 x2 y2 : Nat} (h5 : 5 ≤ P) (h1 : P ≤ 199) (hD : D < P) (hx1 : x1 < P) (hy1 : y1 < P) (hx2 : x2 < P) (hy2 : y2 < P) :
    Ev (fun k => spec_l5Add.f k (P : Int) (D : Int) (x1 : Int) (y1 : Int) (x2 : Int) (y2 : Int)) ((xN P D x1 y1 x2 y2 : Int), (yN P D x1 y1 x2 y2 : Int)) := by
  have hpos : 0 < P := by omega
  have h7 : P ≤ 10007 := by omega
  have h0 : ¬ (P : Int) = 0 := by omega
  have em : ∀ k, spec_l5Add.f k (P : Int) (D : Int) (x1 : Int) (y1 : Int) (x2 : Int) (y2 : Int) =
      (spec_l4Inverse.f k (((1 + mN P D x1 y1 x2 y2) % P : Nat) : Int) (P : Int)).bind fun t => (spec_l4Inverse.f k (((1 + P - mN P D x1 y1 x2 y2) % P : Nat) : Int) (P : Int)).bind fun u =>
        some (Int.tmod (wrap64 ((((x1 * y2 + y1 * x2) % P : Nat) : Int) * t)) P, Int.tmod (wrap64 ((((y1 * y2 % P + P - x1 * x2 % P) % P : Nat) : Int) * u)) P) := by
    intro k
    unfold spec_l5Add.f
    rw [if_neg h0, wrap_mul hD hx1 h7, wrap_mul (Nat.mod_lt (D * x1) hpos) hx2 h7, wrap_mul (Nat.mod_lt (D * x1 % P * x2) hpos) hy1 h7, wrap_mul (Nat.mod_lt (D * x1 % P * x2 % P * y1) hpos) hy2 h7]
    have hm := mN_lt (P := P) (D := D) (x1 := x1) (y1 := y1) (x2 := x2) (y2 := y2) hpos
    unfold mN at hm ⊢
    rw [s_d1 h1 hm, s_d2 h1 hm, s_w h1 hx1 hy2, s_w h1 hy1 hx2, s_n1 (mul_le h1 hx1 hy2) (mul_le h1 hy1 hx2), wrap_mul hy1 hy2 h7, wrap_mul hx1 hx2 h7, s_n5 h1 (Nat.mod_lt _ hpos) (Nat.mod_lt _ hpos)]
  refine Ev.congr em ?_
  refine Ev.bind (inv_ev h5 h1 (Nat.mod_lt _ hpos)) (Ev.bind (inv_ev h5 h1 (Nat.mod_lt _ hpos)) ?_)
  rw [wrap_mul (Nat.mod_lt _ hpos) (Nat.mod_lt _ hpos) h7, wrap_mul (Nat.mod_lt _ hpos) (Nat.mod_lt _ hpos) h7]
  unfold xN yN
  exact Ev.now _

theorem ovN_ev {P : Nat} (h5 : 5 ≤ P) (h1 : P ≤ 199) (z : Int) : ovN (P : Int) z = z % (P : Int) := by
  unfold ovN
  have a1 : Int.tmod z (P : Int) < P := Int.tmod_lt_of_pos z (by omega)
  have a2 : -(P : Int) < Int.tmod z (P : Int) := Int.lt_tmod_of_pos z (by omega)
  have a3 : Int.tmod z (P : Int) % (P : Int) = z % (P : Int) := by
    rw [Int.tmod_def]
    exact Int.sub_mul_emod_self_left _ _ _
  generalize Int.tmod z (P : Int) = t at a1 a2 a3 ⊢
  have e : wrap64 (t + P) = t + P := by unfold wrap64; omega
  rw [e, Int.tmod_eq_emod_of_nonneg (by omega), Int.add_emod_right, a3]

theorem ovF_ev {P n d : Nat} (h5 : 5 ≤ P) (h1 : P ≤ 199) (hn : n < P) (hd : d < P) {zn zd : Int} (en : zn % (P : Int) = (n : Int)) (ed : zd % (P : Int) = (d : Int)) :
    Ev (fun k => ovF k (P : Int) zn zd) ((n * (d ^ (P - 2) % P) % P : Nat) : Int) := by
  unfold ovF
  rw [ovN_ev h5 h1, ovN_ev h5 h1, en, ed]
  have e : ((P : Int) - 2) = ((P - 2 : Nat) : Int) := by omega
  rw [e]
  refine Ev.bind (power_ev d (P - 2) P (by omega) (by omega) (by omega) hd).2 ?_
  rw [wrap_mul hn (Nat.mod_lt _ (by omega)) (by omega)]
  exact Ev.now _

section
variable {P D x1 y1 x2 y2 : Nat} (h5 : 5 ≤ P) (h1 : P ≤ 199) (hD : D < P) (hx1 : x1 < P) (hy1 : y1 < P) (hx2 : x2 < P) (hy2 : y2 < P)
theorem tmul (a b P : Nat) : Int.tmod ((a : Int) * (b : Int)) (P : Int) = ((a * b % P : Nat) : Int) := by
  rw [← Int.natCast_mul, Int.tmod_eq_emod_of_nonneg (by omega), ← Int.natCast_emod]
theorem addM_eq : addM (P : Int) (D : Int) (x1 : Int) (y1 : Int) (x2 : Int) (y2 : Int) = (mN P D x1 y1 x2 y2 : Int) := by
  unfold addM mN
  rw [tmul, tmul, tmul, tmul]
include h5 h1 hD hx1 hy1 hx2 hy2
theorem impl_add_ev : Ev (fun k => impl_addPoints.f k (P : Int) (D : Int) (x1 : Int) (y1 : Int) (x2 : Int) (y2 : Int)) ((xN P D x1 y1 x2 y2 : Int), (yN P D x1 y1 x2 y2 : Int)) := by
  unfold impl_addPoints.f
  have hpos : 0 < P := by omega
  have hb : ((5 ≤ (P : Int) ∧ (P : Int) ≤ 199) ∧ (0 ≤ (D : Int) ∧ (D : Int) ≤ (P : Int) - 1) ∧ (0 ≤ (x1 : Int) ∧ (x1 : Int) ≤ (P : Int) - 1) ∧ (0 ≤ (y1 : Int) ∧ (y1 : Int) ≤ (P : Int) - 1) ∧ (0 ≤ (x2 : Int) ∧ (x2 : Int) ≤ (P : Int) - 1) ∧ (0 ≤ (y2 : Int) ∧ (y2 : Int) ≤ (P : Int) - 1)) := by omega
  rw [addM_eq]
  simp only [hb, and_self, if_true]
  have hm := mN_lt (P := P) (D := D) (x1 := x1) (y1 := y1) (x2 := x2) (y2 := y2) hpos
  have l2 : y1 * y2 % P < P := Nat.mod_lt _ hpos
  have l3 : x1 * x2 % P < P := Nat.mod_lt _ hpos
  refine Ev.bind (ovF_ev h5 h1 (n := (x1 * y2 + y1 * x2) % P) (d := (1 + mN P D x1 y1 x2 y2) % P) (Nat.mod_lt _ hpos) (Nat.mod_lt _ hpos) (by simp) (by simp)) ?_
  refine Ev.bind (ovF_ev h5 h1 (n := (y1 * y2 % P + P - x1 * x2 % P) % P) (d := (1 + P - mN P D x1 y1 x2 y2) % P) (Nat.mod_lt _ hpos) (Nat.mod_lt _ hpos) ?_ ?_) (Ev.now _)
  · have e1 : ((y1 * y2 % P + P - x1 * x2 % P : Nat) : Int) = ((y1 * y2 : Nat) : Int) - ((x1 * x2 : Nat) : Int) + (P : Int) * (1 - ((y1 * y2 / P : Nat) : Int) + ((x1 * x2 / P : Nat) : Int)) := by
      have u := Nat.div_add_mod (y1 * y2) P
      have v := Nat.div_add_mod (x1 * x2) P
      have u' : ((y1 * y2 : Nat) : Int) = (P : Int) * ((y1 * y2 / P : Nat) : Int) + ((y1 * y2 % P : Nat) : Int) := by rw [← Int.natCast_mul, ← Int.natCast_add, u]
      have v' : ((x1 * x2 : Nat) : Int) = (P : Int) * ((x1 * x2 / P : Nat) : Int) + ((x1 * x2 % P : Nat) : Int) := by rw [← Int.natCast_mul, ← Int.natCast_add, v]
      have w : ((y1 * y2 % P + P - x1 * x2 % P : Nat) : Int) = ((y1 * y2 % P : Nat) : Int) + (P : Int) - ((x1 * x2 % P : Nat) : Int) := by omega
      rw [w, u', v']
      generalize ((y1 * y2 / P : Nat) : Int) = a
      generalize ((x1 * x2 / P : Nat) : Int) = b
      generalize ((y1 * y2 % P : Nat) : Int) = c
      generalize ((x1 * x2 % P : Nat) : Int) = d
      grind
    rw [Int.natCast_emod, e1, Int.add_mul_emod_self_left, Int.natCast_mul, Int.natCast_mul]
  · have e1 : ((1 + P - mN P D x1 y1 x2 y2 : Nat) : Int) = (1 - (mN P D x1 y1 x2 y2 : Int)) + (P : Int) := by omega
    rw [Int.natCast_emod, e1, Int.add_emod_right]
end
theorem xN_lt {P D x1 y1 x2 y2 : Nat} (h5 : 5 ≤ P) : xN P D x1 y1 x2 y2 < P := by unfold xN; exact Nat.mod_lt _ (by omega)
theorem yN_lt {P D x1 y1 x2 y2 : Nat} (h5 : 5 ≤ P) : yN P D x1 y1 x2 y2 < P := by unfold yN; exact Nat.mod_lt _ (by omega)
theorem ok_nat {P D : Nat} {x y : Int} (h : okP (P : Int) (D : Int) ⟨x, y⟩ = true) : ∃ a b : Nat, x = (a : Int) ∧ y = (b : Int) ∧ a < P ∧ b < P := by
  unfold okP at h
  simp only [Bool.and_eq_true, decide_eq_true_eq] at h
  exact ⟨x.toNat, y.toNat, by omega, by omega, by omega, by omega⟩


theorem dvd_of_emod {P a b : Int} (h : a % P = b % P) : P ∣ a - b := Int.dvd_of_emod_eq_zero (Int.emod_eq_emod_iff_emod_sub_eq_zero.mp h)
theorem emod_of_dvd {P a b : Int} (h : P ∣ a - b) : a % P = b % P := Int.emod_eq_emod_iff_emod_sub_eq_zero.mpr (Int.emod_eq_zero_of_dvd h)
theorem mm (a b n : Nat) : a % n * b % n = a * b % n := by rw [Nat.mul_mod, Nat.mod_mod, ← Nat.mul_mod]
theorem mm' (a b n : Nat) : a * (b % n) % n = a * b % n := by rw [Nat.mul_comm, mm, Nat.mul_comm]
theorem pr_odd {P : Nat} (hP : NT.Pr P) (h5 : 5 ≤ P) : P % 2 = 1 := by
  have := hP.2 2 (by omega) (by omega)
  omega
/-- the inverse that both sides reckon -/
theorem inv_one {P den : Nat} (hP : NT.Pr P) (h5 : 5 ≤ P) (hd : ¬ P ∣ den) : den ^ (P - 2) % P * den % P = 1 := by
  rw [mm]
  have e : den ^ (P - 2) * den = den ^ (P - 1) := by
    rw [← Nat.pow_succ]
    congr 1
    omega
  rw [e]
  exact hP.fermat hd
theorem quot {P n den : Nat} {N E : Int} (hP : NT.Pr P) (h5 : 5 ≤ P) (hn : (n : Int) % (P : Int) = N % (P : Int)) (hd : (den : Int) % (P : Int) = E % (P : Int)) (hE : ¬ (P : Int) ∣ E) :
    (P : Int) ∣ ((n * (den ^ (P - 2) % P) % P : Nat) : Int) * E - N := by
  have hden : ¬ P ∣ den := by
    intro h
    apply hE
    have h1 : (P : Int) ∣ (den : Int) := Int.natCast_dvd_natCast.mpr h
    have h2 := Int.emod_eq_zero_of_dvd h1
    rw [hd] at h2
    exact Int.dvd_of_emod_eq_zero h2
  have h1 := inv_one hP h5 hden
  generalize den ^ (P - 2) % P = iv at h1 ⊢
  have h2 : (n * iv % P) * den % P = n % P := by
    rw [mm, Nat.mul_assoc, ← mm', h1, Nat.mul_one]
  generalize n * iv % P = q at h2 ⊢
  have h3 : (P : Int) ∣ (q : Int) * (den : Int) - (n : Int) := by
    apply dvd_of_emod
    have h4 := congrArg (fun z : Nat => (z : Int)) h2
    simpa using h4
  have h5 := dvd_of_emod hn
  have h6 := dvd_of_emod hd
  have e : (q : Int) * E - N = ((q : Int) * (den : Int) - (n : Int)) + ((n : Int) - N) - (q : Int) * ((den : Int) - E) := by grind
  rw [e]
  exact Int.dvd_sub (Int.dvd_add h3 h5) (Int.dvd_mul_of_dvd_right h6)
theorem n2_eq {P a b : Nat} (hpos : 0 < P) : (((a % P + P - b % P) % P : Nat) : Int) = ((a : Int) - (b : Int)) % (P : Int) := by
  have hb : b % P < P := Nat.mod_lt _ hpos
  have u := Nat.div_add_mod a P
  have v := Nat.div_add_mod b P
  have u' : (a : Int) = (P : Int) * ((a / P : Nat) : Int) + ((a % P : Nat) : Int) := by rw [← Int.natCast_mul, ← Int.natCast_add, u]
  have v' : (b : Int) = (P : Int) * ((b / P : Nat) : Int) + ((b % P : Nat) : Int) := by rw [← Int.natCast_mul, ← Int.natCast_add, v]
  have w : ((a % P + P - b % P : Nat) : Int) = ((a % P : Nat) : Int) + (P : Int) - ((b % P : Nat) : Int) := by
    rw [Int.natCast_sub (by omega), Int.natCast_add]
  rw [Int.natCast_emod, w]
  apply emod_of_dvd
  have e : ((a % P : Nat) : Int) + (P : Int) - ((b % P : Nat) : Int) - ((a : Int) - (b : Int)) = (P : Int) * (1 - ((a / P : Nat) : Int) + ((b / P : Nat) : Int)) := by grind
  rw [e]
  exact Int.dvd_mul_right _ _
theorem mN_eq (P D x1 y1 x2 y2 : Nat) : ((mN P D x1 y1 x2 y2 : Nat) : Int) = NT.em D x1 y1 x2 y2 % (P : Int) := by
  unfold mN NT.em
  rw [mm (D * x1) x2 P, mm (D * x1 * x2) y1 P, mm (D * x1 * x2 * y1) y2 P, Int.natCast_emod]
  simp
theorem isSum {P D x1 y1 x2 y2 : Nat} (hP : NT.Pr P) (h5 : 5 ≤ P) (hns : NT.NS P (D : Int)) (h1 : (P : Int) ∣ NT.ec D x1 y1) (h2 : (P : Int) ∣ NT.ec D x2 y2) :
    NT.IsSum P (D : Int) x1 y1 x2 y2 (xN P D x1 y1 x2 y2 : Nat) (yN P D x1 y1 x2 y2 : Nat) := by
  have hodd := pr_odd hP h5
  have hp := NT.complete_plus hP hodd hns h1 h2
  have hq := NT.complete_minus hP hodd hns h1 h2
  have hm := mN_eq P D x1 y1 x2 y2
  have hlt := mN_lt (P := P) (D := D) (x1 := x1) (y1 := y1) (x2 := x2) (y2 := y2) (by omega)
  have hme : ((mN P D x1 y1 x2 y2 : Nat) : Int) % (P : Int) = NT.em D x1 y1 x2 y2 % (P : Int) := by rw [hm, Int.emod_emod]
  have hdm := dvd_of_emod hme
  constructor
  · unfold xN
    refine quot hP h5 ?_ ?_ hp
    · simp
    · rw [Int.natCast_emod, Int.emod_emod]
      apply emod_of_dvd
      have e : ((1 + mN P D x1 y1 x2 y2 : Nat) : Int) - (1 + NT.em D x1 y1 x2 y2) = ((mN P D x1 y1 x2 y2 : Nat) : Int) - NT.em D x1 y1 x2 y2 := by
        rw [Int.natCast_add]
        grind
      rw [e]
      exact hdm
  · unfold yN
    refine quot hP h5 ?_ ?_ hq
    · rw [n2_eq (by omega), Int.emod_emod]
      simp
    · rw [Int.natCast_emod, Int.emod_emod]
      apply emod_of_dvd
      have e : ((1 + P - mN P D x1 y1 x2 y2 : Nat) : Int) - (1 - NT.em D x1 y1 x2 y2) = (P : Int) - (((mN P D x1 y1 x2 y2 : Nat) : Int) - NT.em D x1 y1 x2 y2) := by
        rw [Int.natCast_sub (by omega), Int.natCast_add]
        grind
      rw [e]
      exact Int.dvd_sub (Int.dvd_refl _) hdm
theorem ns_of {P D : Nat} (hP : NT.Pr P) (h5 : 5 ≤ P) (hD0 : 2 ≤ D) (hDP : D < P) (h : D ^ ((P - 1) / 2) % P ≠ 1) : NT.NS P (D : Int) := by
  intro u v hd
  apply Classical.byContradiction
  intro hv
  apply h
  have hP0 : (P : Int) ≠ 0 := by omega
  obtain ⟨U, hU⟩ : ∃ U : Nat, (U : Int) = u % (P : Int) := ⟨(u % (P : Int)).toNat, Int.toNat_of_nonneg (Int.emod_nonneg _ hP0)⟩
  obtain ⟨V, hV⟩ : ∃ V : Nat, (V : Int) = v % (P : Int) := ⟨(v % (P : Int)).toNat, Int.toNat_of_nonneg (Int.emod_nonneg _ hP0)⟩
  have hU' : (P : Int) ∣ (U : Int) - u := dvd_of_emod (by rw [hU, Int.emod_emod])
  have hV' : (P : Int) ∣ (V : Int) - v := dvd_of_emod (by rw [hV, Int.emod_emod])
  have hVd : ¬ P ∣ V := by
    intro hh
    apply hv
    have h1 : (P : Int) ∣ (V : Int) := Int.natCast_dvd_natCast.mpr hh
    have e : v = (V : Int) - ((V : Int) - v) := by grind
    rw [e]
    exact Int.dvd_sub h1 hV'
  have h1 := inv_one hP h5 hVd
  generalize V ^ (P - 2) % P = iv at h1
  have h2 : (P : Int) ∣ (iv : Int) * (V : Int) - 1 := by
    apply dvd_of_emod
    have h4 := congrArg (fun z : Nat => (z : Int)) h1
    simp only [Int.natCast_emod, Int.natCast_mul] at h4
    rw [h4]
    have : (1 : Int) % (P : Int) = 1 := Int.emod_eq_of_lt (by omega) (by omega)
    rw [this]
    rfl
  refine hP.euler (n := U * iv) (pr_odd hP h5) ?_ ?_
  · have h3 : (P : Int) ∣ ((U * iv * (U * iv) : Nat) : Int) - (D : Int) := by
      have a1 := NT.dvd_diff_sq hU'
      have a2 := NT.dvd_diff_sq hV'
      have a3 : (P : Int) ∣ ((iv : Int) * (V : Int)) * ((iv : Int) * (V : Int)) - 1 * 1 := NT.dvd_diff_sq h2
      have e : ((U * iv * (U * iv) : Nat) : Int) - (D : Int) = ((U : Int) * U - u * u) * ((iv : Int) * iv) + (u * u - (D : Int) * (v * v)) * ((iv : Int) * iv) - ((V : Int) * V - v * v) * ((D : Int) * ((iv : Int) * iv)) + (((iv : Int) * (V : Int)) * ((iv : Int) * (V : Int)) - 1 * 1) * (D : Int) := by
        simp only [Int.natCast_mul]
        grind
      rw [e]
      exact Int.dvd_add (Int.dvd_sub (Int.dvd_add (Int.dvd_mul_of_dvd_left a1) (Int.dvd_mul_of_dvd_left hd)) (Int.dvd_mul_of_dvd_left a2)) (Int.dvd_mul_of_dvd_left a3)
    have h4 := emod_of_dvd h3
    have h5 : (((U * iv * (U * iv)) % P : Nat) : Int) = ((D % P : Nat) : Int) := by rw [Int.natCast_emod, Int.natCast_emod, h4]
    exact Int.ofNat.inj h5
  · intro hh
    have := Nat.le_of_dvd (by omega) hh
    omega
/-- the orbit of zero under the adding of a point -/
def orb (P D a b : Nat) : Nat → Nat × Nat
  | 0 => (0, 1)
  | n + 1 => (xN P D (orb P D a b n).1 (orb P D a b n).2 a b, yN P D (orb P D a b n).1 (orb P D a b n).2 a b)
section
variable {P D a b : Nat} (hP : NT.Pr P) (h5 : 5 ≤ P) (ha : a < P) (hb : b < P)
include h5 in
theorem orb_lt (n : Nat) : (orb P D a b n).1 < P ∧ (orb P D a b n).2 < P := by
  cases n with
  | zero => exact ⟨by show 0 < P; omega, by show 1 < P; omega⟩
  | succ n => exact ⟨xN_lt h5, yN_lt h5⟩
include h5 ha hb in
theorem orb_one : orb P D a b 1 = (a, b) := by
  show (xN P D 0 1 a b, yN P D 0 1 a b) = (a, b)
  have hm : mN P D 0 1 a b = 0 := by unfold mN; simp
  unfold xN yN
  rw [hm]
  have e1 : (1 + 0) % P = 1 := Nat.mod_eq_of_lt (by omega)
  have e2 : (1 + P - 0) % P = 1 := by rw [Nat.sub_zero, Nat.add_mod_right]; exact Nat.mod_eq_of_lt (by omega)
  have e3 : (1 : Nat) % P = 1 := Nat.mod_eq_of_lt (by omega)
  rw [e1, e2, Nat.one_pow, e3]
  simp only [Nat.zero_mul, Nat.one_mul, Nat.zero_add, Nat.zero_mod, Nat.sub_zero, Nat.mul_one, Nat.add_mod_right, Nat.mod_mod]
  rw [Nat.mod_eq_of_lt ha, Nat.mod_eq_of_lt hb]
variable (hns : NT.NS P (D : Int)) (hab : (P : Int) ∣ NT.ec D a b)
include hP h5 hns hab in
theorem orb_on (n : Nat) : (P : Int) ∣ NT.ec D (orb P D a b n).1 (orb P D a b n).2 := by
  induction n with
  | zero =>
    show (P : Int) ∣ NT.ec D ((0 : Nat) : Int) ((1 : Nat) : Int)
    unfold NT.ec
    simp
  | succ n ih => exact (isSum hP h5 hns ih hab).closed hP (pr_odd hP h5) hns ih hab
theorem eq_of_dvd {P x y : Nat} (hx : x < P) (hy : y < P) (h : (P : Int) ∣ (x : Int) - (y : Int)) : x = y := by
  have h1 := emod_of_dvd h
  rw [Int.emod_eq_of_lt (by omega) (by omega), Int.emod_eq_of_lt (by omega) (by omega)] at h1
  exact Int.ofNat.inj h1
include hP h5 hns hab in
theorem orb_back (i : Nat) : ∀ m, orb P D a b (i + m) = orb P D a b i → orb P D a b m = (0, 1) := by
  induction i with
  | zero => intro m h; rw [Nat.zero_add] at h; exact h
  | succ i ih =>
    intro m h
    apply ih m
    rw [show i + 1 + m = (i + m) + 1 by omega] at h
    have s1 := isSum hP h5 hns (orb_on hP h5 hns hab (i + m)) hab
    have s2 := isSum hP h5 hns (orb_on hP h5 hns hab i) hab
    have e1 : xN P D (orb P D a b (i + m)).1 (orb P D a b (i + m)).2 a b = xN P D (orb P D a b i).1 (orb P D a b i).2 a b := congrArg Prod.fst h
    have e2 : yN P D (orb P D a b (i + m)).1 (orb P D a b (i + m)).2 a b = yN P D (orb P D a b i).1 (orb P D a b i).2 a b := congrArg Prod.snd h
    rw [e1, e2] at s1
    obtain ⟨d1, d2⟩ := NT.IsSum.inj hP (pr_odd hP h5) hns (orb_on hP h5 hns hab (i + m)) (orb_on hP h5 hns hab i) hab s1 s2
    have l1 := orb_lt (P := P) (D := D) (a := a) (b := b) h5 (i + m)
    have l2 := orb_lt (P := P) (D := D) (a := a) (b := b) h5 i
    exact Prod.ext (eq_of_dvd l1.1 l2.1 d1) (eq_of_dvd l1.2 l2.2 d2)
include hP h5 hns hab in
theorem orb_ends : ∃ m, 0 < m ∧ orb P D a b m = (0, 1) := by
  have hb : ∀ i, i ≤ P * P → (orb P D a b i).1 * P + (orb P D a b i).2 < P * P := by
    intro i _
    obtain ⟨l1, l2⟩ := orb_lt (P := P) (D := D) (a := a) (b := b) h5 i
    have : (orb P D a b i).1 * P + P ≤ P * P := by
      have := Nat.mul_le_mul_right P (show (orb P D a b i).1 + 1 ≤ P by omega)
      rw [Nat.add_mul, Nat.one_mul] at this
      exact this
    omega
  obtain ⟨i, j, hij, _, he⟩ := NT.pigeon (fun i => (orb P D a b i).1 * P + (orb P D a b i).2) (P * P) hb
  have l1 := orb_lt (P := P) (D := D) (a := a) (b := b) h5 i
  have l2 := orb_lt (P := P) (D := D) (a := a) (b := b) h5 j
  have he' : (orb P D a b i).1 * P + (orb P D a b i).2 = (orb P D a b j).1 * P + (orb P D a b j).2 := he
  have e2 : (orb P D a b i).2 = (orb P D a b j).2 := by
    have := congrArg (· % P) he'
    simp only [Nat.mul_add_mod_self_right, Nat.mod_eq_of_lt l1.2, Nat.mod_eq_of_lt l2.2] at this
    exact this
  have e1 : (orb P D a b i).1 = (orb P D a b j).1 := by
    rw [e2] at he'
    exact Nat.eq_of_mul_eq_mul_right (by omega) (Nat.add_right_cancel he')
  refine ⟨j - i, by omega, orb_back hP h5 hns hab i (j - i) ?_⟩
  rw [show i + (j - i) = j by omega]
  exact Prod.ext e1.symm e2.symm
end


/-- the equation, as the program asks it -/
theorem on_ec {P D x y : Nat} (h5 : 5 ≤ P) (h1 : P ≤ 199) (hD : D < P) (hx : x < P) (hy : y < P) (h : spec_l5On.f (P : Int) (D : Int) (x : Int) (y : Int) = some true) : (P : Int) ∣ NT.ec D x y := by
  have hpos : 0 < P := by omega
  have h7 : P ≤ 10007 := by omega
  have h0 : ¬ (P : Int) = 0 := by omega
  unfold spec_l5On.f at h
  rw [if_neg h0, wrap_mul hx hx h7, wrap_mul hy hy h7] at h
  have ha : x * x % P < P := Nat.mod_lt _ hpos
  have hb : y * y % P < P := Nat.mod_lt _ hpos
  have da : (P : Int) ∣ ((x : Int) * x) - ((x * x % P : Nat) : Int) := dvd_of_emod (by rw [Int.natCast_emod, Int.emod_emod, Int.natCast_mul])
  have db : (P : Int) ∣ ((y : Int) * y) - ((y * y % P : Nat) : Int) := dvd_of_emod (by rw [Int.natCast_emod, Int.emod_emod, Int.natCast_mul])
  generalize x * x % P = A at ha da h
  generalize y * y % P = B at hb db h
  rw [wrap_mul hD ha h7] at h
  have hc : D * A % P < P := Nat.mod_lt _ hpos
  have dc : (P : Int) ∣ ((D : Int) * A) - ((D * A % P : Nat) : Int) := dvd_of_emod (by rw [Int.natCast_emod, Int.emod_emod, Int.natCast_mul])
  generalize D * A % P = C at hc dc h
  have hm := mul_le h1 hc hb
  rw [s_w h1 hc hb, s_n1 (by omega) (by omega)] at h
  have e1 : Int.tmod (wrap64 (1 + ((C * B : Nat) : Int))) (P : Int) = (((1 + C * B) % P : Nat) : Int) := tm P (by rw [Int.natCast_add]; rfl) (by omega)
  rw [e1] at h
  have h2 : (((A + B) % P : Nat) : Int) = (((1 + C * B) % P : Nat) : Int) := by simpa using h
  rw [Int.natCast_emod, Int.natCast_emod] at h2
  have h3 := dvd_of_emod h2
  rw [Int.natCast_add, Int.natCast_add, Int.natCast_mul] at h3
  have e : NT.ec (D : Int) (x : Int) (y : Int) = ((A : Int) + (B : Int) - (((1 : Nat) : Int) + (C : Int) * (B : Int))) + (((x : Int) * x) - (A : Int)) * 1 + (((y : Int) * y) - (B : Int)) * (1 - (D : Int) * ((x : Int) * x)) - ((((x : Int) * x) - (A : Int)) * ((D : Int) * (B : Int)) + (((D : Int) * A) - (C : Int)) * (B : Int)) := by
    unfold NT.ec
    simp only [Int.natCast_one]
    grind
  rw [e]
  exact Int.dvd_sub (Int.dvd_add (Int.dvd_add h3 (Int.dvd_mul_of_dvd_left da)) (Int.dvd_mul_of_dvd_left db)) (Int.dvd_add (Int.dvd_mul_of_dvd_left da) (Int.dvd_mul_of_dvd_left dc))

theorem walk {P D a b m : Nat} (h5 : 5 ≤ P) (h1 : P ≤ 199) (hD : D < P) (ha : a < P) (hb : b < P) (he : orb P D a b m = (0, 1)) : ∀ d i, i + d = m → ∀ n : Int, ∃ r,
    Ev (fun k => spec_OrderOf.l0 k n (P : Int) (D : Int) (a : Int) (b : Int) ((orb P D a b i).1 : Int) ((orb P D a b i).2 : Int)) r ∧
    Ev (fun k => impl_OrderOf.l0 k n (P : Int) (D : Int) (a : Int) (b : Int) ((orb P D a b i).1 : Int) ((orb P D a b i).2 : Int)) r := by
  intro d
  induction d with
  | zero =>
    intro i hi n
    rw [Nat.add_zero] at hi
    subst hi
    rw [he]
    exact ⟨(n, true), Ev.step (fun k => by simp [spec_OrderOf.l0]) (Ev.now _), Ev.step (fun k => by simp [impl_OrderOf.l0]) (Ev.now _)⟩
  | succ d ih =>
    intro i hi n
    obtain ⟨r, hs, hi'⟩ := ih (i + 1) (by omega) (wrap64 (n + 1))
    obtain ⟨l1, l2⟩ := orb_lt (P := P) (D := D) (a := a) (b := b) h5 i
    by_cases hc : (!(((orb P D a b i).1 : Int) == 0) || (!(((orb P D a b i).2 : Int) == 1))) = true
    · refine ⟨r, Ev.step (fun k => by simp only [spec_OrderOf.l0]; rw [if_pos hc]) ?_, Ev.step (fun k => by simp only [impl_OrderOf.l0]; rw [if_pos hc]) ?_⟩
      · exact Ev.bind (spec_add_ev h5 h1 hD l1 l2 ha hb) hs
      · exact Ev.bind (impl_add_ev h5 h1 hD l1 l2 ha hb) hi'
    · exact ⟨(n, true), Ev.step (fun k => by simp only [spec_OrderOf.l0]; rw [if_neg hc]) (Ev.now _), Ev.step (fun k => by simp only [impl_OrderOf.l0]; rw [if_neg hc]) (Ev.now _)⟩

theorem both_ev (p d x y : Int) : ∃ r, Ev (fun k => spec_OrderOf.f k p d x y) r ∧ Ev (fun k => impl_OrderOf.f k p d x y) r := by
  unfold spec_OrderOf.f impl_OrderOf.f
  rcases curve_ev p d with ⟨P, D, rfl, rfl, hc, hs, hi⟩ | ⟨hs, hi⟩
  · have h1 := good_ev hc hs x y
    have h3 := are_ev hi [⟨x, y⟩] (by simp)
    rw [bad1] at h3
    cases hb : okP (P : Int) (D : Int) ⟨x, y⟩ with
    | true =>
      have hok := hb
      rw [hb] at h1 h3
      obtain ⟨a, b, rfl, rfl, ha, hb⟩ := ok_nat hb
      obtain ⟨c1, c2, c3, c4, c5, c6⟩ := hc
      have hon : spec_l5On.f (P : Int) (D : Int) (a : Int) (b : Int) = some true := by
        unfold okP at hok
        simp only [Bool.and_eq_true, decide_eq_true_eq, on_same, beq_iff_eq] at hok
        exact hok.2
      obtain ⟨m, hm, he⟩ := orb_ends c3 c1 (ns_of c3 c1 c4 c5 c6) (on_ec c1 c2 c5 ha hb hon)
      obtain ⟨r, ws, wi⟩ := walk c1 c2 c5 ha hb he (m - 1) 1 (by omega) 1
      rw [orb_one c1 ha hb] at ws wi
      refine ⟨r, Ev.bind h1 ?_, Ev.bind h3 ?_⟩
      · simp only [if_true]
        exact ws
      · simp only [Bool.not_true, Bool.not_false, Bool.true_and, if_true]
        exact wi
    | false =>
      rw [hb] at h1 h3
      exact ⟨(0, false), Ev.bind h1 (Ev.now _), Ev.bind h3 (Ev.now _)⟩
  · have h1 := good_no hs x y
    have h3 := are_ev hi [⟨x, y⟩] (by simp)
    exact ⟨(0, false), Ev.bind h1 (Ev.now _), Ev.bind h3 (Ev.now _)⟩

theorem FnExactOrderOf (a0 a1 a2 a3 : Int) : ∃ k, laws_FnExactOrderOf.f k a0 a1 a2 a3 = some true := by
  obtain ⟨r, hs, hi⟩ := both_ev a0 a1 a2 a3
  refine Ev.rounds (Ev.congr (fun k => by unfold laws_FnExactOrderOf.f laws_toCurve.f laws_toPoint.f; rfl) (Ev.bind hs (Ev.bind hi ?_)))
  simp only [if_true, if_false, bne_self_eq_false, Bool.false_eq_true]
  exact Ev.now _

end Go.Proofs.Ytghikmnjccgchaa.Pure
