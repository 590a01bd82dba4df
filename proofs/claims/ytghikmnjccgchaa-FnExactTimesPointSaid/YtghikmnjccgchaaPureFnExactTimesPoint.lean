/- The law FnExactTimesPoint answers true for every curve, every number and every point. No condition. -/
import Derived.Test.YtghikmnjccgchaaSFnExactTimesPointx5
import Derived.Test.YtghikmnjccgchaaNT
namespace Go.Proofs.Ytghikmnjccgchaa.Pure
open Go.RowKit Go.Proofs.Ytghikmnjccgchaa.SFnExactTimesPoint Go.Proofs.YtghikmnjccgchaaW.PrintWords Go.Proofs.YtghikmnjccgchaaW.PrintLast Go.Proofs.YtghikmnjccgchaaW.PrintMore
open Go.Proofs.Ytghikmnjccgchaa

theorem prime_same : ∀ (k : Nat) (x y : Int), impl_isPrime.l0 k x y = spec_l4Prime.l0 k x y := by
  intro k
  induction k with
  | zero => intro x y; rfl
  | succ k ih => intro x y; simp only [impl_isPrime.l0, spec_l4Prime.l0, ih]

theorem prime_loop (n : Nat) (hn : n ≤ 10007) : ∀ (t d : Nat), 2 ≤ d → d + t = 102 → (∀ e, 2 ≤ e → e < d → ¬ e ∣ n) →
    ∃ b, Ev (fun k => spec_l4Prime.l0 k (n : Int) (d : Int)) b ∧ (b = true ↔ NT.Pr n) := by
  intro t
  induction t with
  | zero =>
    intro d hd ht hno
    obtain rfl : d = 102 := by omega
    refine ⟨decide (n > 1), Ev.step (f := fun _ => some (decide (n > 1))) (fun k => ?_) (Ev.now _), ?_⟩
    · simp only [spec_l4Prime.l0]
      have hw : wrap64 (((102 : Nat) : Int) * ((102 : Nat) : Int)) = 10404 := by unfold wrap64; omega
      rw [hw, if_neg (by omega)]
      congr 1
      simp
      omega
    · rw [decide_eq_true_eq]
      refine ⟨fun h => ⟨h, fun e h2 h3 => ?_⟩, fun h => h.1⟩
      refine hno e h2 ?_
      apply Nat.lt_of_not_le
      intro hge
      have := Nat.mul_le_mul hge hge
      omega
  | succ t ih =>
    intro d hd ht hno
    have hw : wrap64 ((d : Int) * (d : Int)) = ((d * d : Nat) : Int) := by
      have h1 : d * d ≤ 102 * 102 := Nat.mul_le_mul (by omega) (by omega)
      have h2 : ((d * d : Nat) : Int) = (d : Int) * (d : Int) := by simp
      rw [← h2]
      unfold wrap64
      omega
    by_cases h1 : d * d ≤ n
    · have hm : Int.tmod (n : Int) (d : Int) = ((n % d : Nat) : Int) := by rw [Int.tmod_eq_emod_of_nonneg (by omega)]; simp
      by_cases h2 : n % d = 0
      · refine ⟨false, Ev.step (f := fun _ => some false) (fun k => ?_) (Ev.now _), ?_⟩
        · simp only [spec_l4Prime.l0]
          rw [hw, if_pos (by omega), if_neg (by omega), hm, if_pos (by omega)]
        · simp only [Bool.false_eq_true, false_iff]
          intro hp
          exact hp.2 d hd h1 (Nat.dvd_of_mod_eq_zero h2)
      · obtain ⟨b, hb, hiff⟩ := ih (d + 1) (by omega) (by omega) (by
          intro e he1 he2
          by_cases h3 : e = d
          · subst h3
            intro hdv
            exact h2 (Nat.mod_eq_zero_of_dvd hdv)
          · exact hno e he1 (by omega))
        refine ⟨b, Ev.step (fun k => ?_) hb, hiff⟩
        simp only [spec_l4Prime.l0]
        have hw2 : wrap64 ((d : Int) + 1) = ((d + 1 : Nat) : Int) := by unfold wrap64; omega
        rw [hw, if_pos (by omega), if_neg (by omega), hm, if_neg (by omega), hw2]
    · refine ⟨decide (n > 1), Ev.step (f := fun _ => some (decide (n > 1))) (fun k => ?_) (Ev.now _), ?_⟩
      · simp only [spec_l4Prime.l0]
        rw [hw, if_neg (by omega)]
        congr 1
        simp
        omega
      · rw [decide_eq_true_eq]
        refine ⟨fun h => ⟨h, fun e h2 h3 => ?_⟩, fun h => h.1⟩
        refine hno e h2 ?_
        apply Nat.lt_of_not_le
        intro hge
        have := Nat.mul_le_mul hge hge
        omega

theorem prime_ev (n : Nat) (hn : n ≤ 10007) : ∃ b, Ev (fun k => spec_l4Prime.f k (n : Int)) b ∧ Ev (fun k => impl_isPrime.f k (n : Int)) b ∧ (b = true ↔ NT.Pr n) := by
  obtain ⟨b, hb, hiff⟩ := prime_loop n hn 100 2 (by omega) (by omega) (fun e h1 h2 => by omega)
  refine ⟨b, hb, Ev.congr (fun k => ?_) hb, hiff⟩
  unfold impl_isPrime.f
  rw [prime_same]
  rfl


theorem power_same : ∀ (k : Nat) (x y z t : Int), impl_powerMod.l0 k x y z t = spec_l4Power.l0 k x y z t := by
  intro k
  induction k with
  | zero => intro x y z t; rfl
  | succ k ih => intro x y z t; simp only [impl_powerMod.l0, spec_l4Power.l0, ih]

theorem wrap_mul {x y p : Nat} (hx : x < p) (hy : y < p) (hp : p ≤ 10007) : Int.tmod (wrap64 ((x : Int) * (y : Int))) (p : Int) = ((x * y % p : Nat) : Int) := by
  have h1 : x * y ≤ 10007 * 10007 := Nat.mul_le_mul (by omega) (by omega)
  have h2 : ((x * y : Nat) : Int) = (x : Int) * (y : Int) := by simp
  have h3 : wrap64 ((x : Int) * (y : Int)) = ((x * y : Nat) : Int) := by rw [← h2]; unfold wrap64; omega
  rw [h3, Int.tmod_eq_emod_of_nonneg (by omega)]
  simp

theorem power_loop (p : Nat) (hp2 : 2 ≤ p) (hp : p ≤ 10007) : ∀ (e : Nat), e ≤ 1000000000 → ∀ (a n : Nat), a < p → n < p →
    Ev (fun k => spec_l4Power.l0 k (a : Int) (e : Int) (p : Int) (n : Int)) ((n * a ^ e % p : Nat) : Int) := by
  intro e
  induction e using Nat.strongRecOn with
  | _ e ih =>
    intro he a n ha hn
    by_cases h0 : e = 0
    · subst h0
      refine Ev.step (f := fun _ => some _) (fun k => ?_) (Ev.now _)
      simp only [spec_l4Power.l0]
      rw [if_neg (by omega), Nat.pow_zero, Nat.mul_one, Nat.mod_eq_of_lt hn]
    · have hdiv : wrap64 (Int.tdiv (e : Int) 2) = ((e / 2 : Nat) : Int) := by
        rw [Int.tdiv_eq_ediv_of_nonneg (by omega)]
        unfold wrap64
        omega
      have hmod : Int.tmod (e : Int) 2 = ((e % 2 : Nat) : Int) := by
        rw [Int.tmod_eq_emod_of_nonneg (by omega)]
        simp
      have hlt : ∀ x : Nat, x % p < p := fun x => Nat.mod_lt _ (by omega)
      have hee := Nat.div_add_mod e 2
      by_cases h1 : e % 2 = 1
      · have h2 := ih (e / 2) (by omega) (by omega) (a * a % p) (n * a % p) (hlt _) (hlt _)
        have e1 : n * a % p * (a * a % p) ^ (e / 2) % p = n * a ^ e % p := by
          rw [Nat.mul_mod, Nat.pow_mod, Nat.mod_mod, Nat.mod_mod, ← Nat.pow_mod, ← Nat.mul_mod, ← Nat.pow_two, ← Nat.pow_mul, Nat.mul_assoc, ← Nat.pow_succ']
          have : (2 * (e / 2)).succ = e := by omega
          rw [this]
        rw [e1] at h2
        refine Ev.step (fun k => ?_) h2
        simp only [spec_l4Power.l0]
        rw [if_pos (by omega), hmod, if_pos (by omega), if_neg (by omega), wrap_mul ha ha hp, wrap_mul hn ha hp, hdiv]
      · have h2 := ih (e / 2) (by omega) (by omega) (a * a % p) n (hlt _) hn
        have e1 : n * (a * a % p) ^ (e / 2) % p = n * a ^ e % p := by
          rw [Nat.mul_mod, Nat.pow_mod, Nat.mod_mod, ← Nat.pow_mod, ← Nat.mul_mod, ← Nat.pow_two, ← Nat.pow_mul]
          have : 2 * (e / 2) = e := by omega
          rw [this]
        rw [e1] at h2
        refine Ev.step (fun k => ?_) h2
        simp only [spec_l4Power.l0]
        rw [if_pos (by omega), hmod, if_neg (by omega), if_neg (by omega), wrap_mul ha ha hp, hdiv]

theorem power_ev (a e p : Nat) (hp2 : 2 ≤ p) (hp : p ≤ 10007) (he : e ≤ 1000000000) (ha : a < p) :
    Ev (fun k => spec_l4Power.f k (a : Int) (e : Int) (p : Int)) ((a ^ e % p : Nat) : Int) ∧ Ev (fun k => impl_powerMod.f k (a : Int) (e : Int) (p : Int)) ((a ^ e % p : Nat) : Int) := by
  have h := power_loop p hp2 hp e he a 1 ha (by omega)
  rw [Nat.one_mul] at h
  refine ⟨h, Ev.congr (fun k => ?_) h⟩
  unfold impl_powerMod.f
  rw [power_same]
  rfl


/-- the reference's kind of a number: 0, 1 or -1 -/
theorem kind_ev (a p : Nat) (hp : NT.Pr p) (h3 : 3 ≤ p) (h4 : p ≤ 10007) (ha : a < p) :
    ∃ r : Int, Ev (fun k => spec_l4Kind.f k (a : Int) (p : Int)) r ∧ Ev (fun k => impl_squareKind.f k (a : Int) (p : Int)) r ∧ (r = 0 ∨ r = 1 ∨ r = -1) ∧ (r = -1 ↔ a ≠ 0 ∧ a ^ ((p - 1) / 2) % p ≠ 1) := by
  obtain ⟨hs, hi⟩ := power_ev a ((p - 1) / 2) p (by omega) h4 (by omega) ha
  have hw : wrap64 (Int.tdiv (wrap64 ((p : Int) - 1)) 2) = (((p - 1) / 2 : Nat) : Int) := by
    have h1 : wrap64 ((p : Int) - 1) = (p : Int) - 1 := by unfold wrap64; omega
    rw [h1, Int.tdiv_eq_ediv_of_nonneg (by omega)]
    unfold wrap64
    omega
  unfold spec_l4Kind.f impl_squareKind.f
  rw [hw]
  by_cases h0 : a = 0
  · subst h0
    have e0 : 0 ^ ((p - 1) / 2) % p = 0 := by rw [Nat.zero_pow (by omega)]; exact Nat.zero_mod p
    rw [e0] at hs
    refine ⟨0, Ev.bind hs ?_, ?_, by omega, by simp⟩
    · simp only [Int.natCast_zero, if_true]
      exact Ev.now _
    · simp only [Int.natCast_zero, if_true]
      exact Ev.now _
  · have ha' : ¬ p ∣ a := fun hd => by have := Nat.le_of_dvd (by omega) hd; omega
    have hne : a ^ ((p - 1) / 2) % p ≠ 0 := fun h => hp.not_dvd_pow ha' _ (Nat.dvd_of_mod_eq_zero h)
    have ha0 : ¬ (a : Int) = 0 := by omega
    by_cases h1 : a ^ ((p - 1) / 2) % p = 1
    · rw [h1] at hs hi
      refine ⟨1, Ev.bind hs ?_, ?_, by omega, by simp [h1]⟩
      · simp only [Int.natCast_one, Int.one_ne_zero, if_true, if_false]
        exact Ev.now _
      · simp only [ha0, if_false]
        refine Ev.bind hi ?_
        simp only [Int.natCast_one, if_true]
        exact Ev.now _
    · refine ⟨-1, Ev.bind hs ?_, ?_, by omega, by simp [h1, h0]⟩
      · rw [if_neg (by omega), if_neg (by omega)]
        exact Ev.now _
      · simp only [ha0, if_false]
        refine Ev.bind hi ?_
        rw [if_neg (by omega)]
        exact Ev.now _


/-- a valid curve -/
def Cv (P D : Nat) : Prop := 5 ≤ P ∧ P ≤ 199 ∧ NT.Pr P ∧ 2 ≤ D ∧ D < P ∧ D ^ ((P - 1) / 2) % P ≠ 1

theorem in_ev (a lo hi : Int) : spec_l1In.f a lo hi = some (decide (lo ≤ a ∧ a ≤ hi)) := by
  unfold spec_l1In.f
  by_cases h : a ≥ lo
  · rw [if_pos h]; congr 1; simp; omega
  · rw [if_neg h]; congr 1; simp; omega
theorem within_ev (a lo hi : Int) : impl_within.f a lo hi = some (decide (lo ≤ a ∧ a ≤ hi)) := in_ev a lo hi

theorem curve_ev (p d : Int) : (∃ P D : Nat, p = (P : Int) ∧ d = (D : Int) ∧ Cv P D ∧ Ev (fun k => spec_GoodCurve.f k p d) true ∧ Ev (fun k => impl_isCurve.f k p d) true)
    ∨ (Ev (fun k => spec_GoodCurve.f k p d) false ∧ Ev (fun k => impl_isCurve.f k p d) false) := by
  unfold spec_GoodCurve.f impl_isCurve.f
  simp only [in_ev, within_ev, Option.bind_some]
  by_cases h1 : 5 ≤ p ∧ p ≤ 199
  · have hw : wrap64 (p - 1) = p - 1 := by unfold wrap64; omega
    simp only [h1, and_self, decide_true, if_true, hw]
    obtain ⟨P, rfl⟩ : ∃ m : Nat, p = (m : Int) := ⟨p.toNat, by omega⟩
    obtain ⟨b, hs, hi, hb⟩ := prime_ev P (by omega)
    cases b with
    | false =>
      right
      refine ⟨Ev.bind hs ?_, Ev.bind hi ?_⟩ <;> (simp only [Bool.false_eq_true, if_false]; exact Ev.now _)
    | true =>
      have hP := hb.mp rfl
      by_cases h2 : 2 ≤ d ∧ d ≤ (P : Int) - 1
      · obtain ⟨D, rfl⟩ : ∃ m : Nat, d = (m : Int) := ⟨d.toNat, by omega⟩
        obtain ⟨r, ks, ki, hr, hr1⟩ := kind_ev D P hP (by omega) (by omega) (by omega)
        by_cases h3 : r = -1
        · left
          obtain ⟨_, h4⟩ := hr1.mp h3
          subst h3
          refine ⟨P, D, rfl, rfl, ⟨by omega, by omega, hP, by omega, by omega, h4⟩, Ev.bind hs ?_, Ev.bind hi ?_⟩
          · simp only [h2, and_self, decide_true, if_true]
            exact Ev.bind ks (Ev.now _)
          · simp only [h2, and_self, decide_true, if_true]
            exact Ev.bind ki (Ev.now _)
        · right
          have e1 : (r == -1) = false := by simpa using h3
          have e2 : decide (r < 0) = false := by simp; omega
          refine ⟨Ev.bind hs ?_, Ev.bind hi ?_⟩
          · simp only [h2, and_self, decide_true, if_true]
            refine Ev.bind ks ?_
            rw [e1]
            exact Ev.now _
          · simp only [h2, and_self, decide_true, if_true]
            refine Ev.bind ki ?_
            rw [e2]
            exact Ev.now _
      · right
        refine ⟨Ev.bind hs ?_, Ev.bind hi ?_⟩ <;> (simp only [h2, decide_false, Bool.false_eq_true, if_false, if_true]; exact Ev.now _)
  · right
    simp only [h1, decide_false, Bool.false_eq_true, if_false]
    exact ⟨Ev.now _, Ev.now _⟩


theorem on_same (p d x y : Int) : impl_onCurve.f p d x y = spec_l5On.f p d x y := rfl
theorem on_some {p : Int} (hp : p ≠ 0) (d x y : Int) : ∃ b, spec_l5On.f p d x y = some b := by
  unfold spec_l5On.f
  rw [if_neg hp]
  exact ⟨_, rfl⟩

/-- whether a point is good, told by both sides -/
theorem good_ev {P D : Nat} (hc : Cv P D) (hs : Ev (fun k => spec_GoodCurve.f k (P : Int) (D : Int)) true) (x y : Int) : Ev (fun k => spec_l5Good.f k (P : Int) (D : Int) x y) (okP (P : Int) (D : Int) ⟨x, y⟩) := by
  have h1 := hc.1
  have h2 := hc.2.1
  have hw : wrap64 ((P : Int) - 1) = (P : Int) - 1 := by unfold wrap64; omega
  unfold spec_l5Good.f
  refine Ev.bind hs ?_
  unfold spec_l5Point.f okP
  simp only [in_ev, Option.bind_some, if_true, hw, on_same]
  obtain ⟨b, hb⟩ := on_some (p := (P : Int)) (by omega) D x y
  by_cases hx : 0 ≤ x ∧ x ≤ (P : Int) - 1
  · by_cases hy : 0 ≤ y ∧ y ≤ (P : Int) - 1
    · have e : (decide (0 ≤ x ∧ x ≤ (P : Int) - 1) && decide (0 ≤ y ∧ y ≤ (P : Int) - 1) && (spec_l5On.f (P : Int) D x y == some true)) = b := by
        rw [hb, decide_eq_true hx, decide_eq_true hy]
        cases b <;> rfl
      rw [e]
      simp only [hx, hy, and_self, decide_true, if_true, Option.bind_some, hb]
      exact Ev.now _
    · have e : (decide (0 ≤ x ∧ x ≤ (P : Int) - 1) && decide (0 ≤ y ∧ y ≤ (P : Int) - 1) && (spec_l5On.f (P : Int) D x y == some true)) = false := by
        rw [decide_eq_false hy]; simp
      rw [e]
      simp only [hx, hy, and_self, decide_true, decide_false, if_true, Option.bind_some, Bool.false_eq_true, if_false]
      exact Ev.now _
  · have e : (decide (0 ≤ x ∧ x ≤ (P : Int) - 1) && decide (0 ≤ y ∧ y ≤ (P : Int) - 1) && (spec_l5On.f (P : Int) D x y == some true)) = false := by
      rw [decide_eq_false hx]; simp
    rw [e]
    simp only [hx, decide_false, Option.bind_some, Bool.false_eq_true, if_false]
    exact Ev.now _
theorem good_no {p d : Int} (hs : Ev (fun k => spec_GoodCurve.f k p d) false) (x y : Int) : Ev (fun k => spec_l5Good.f k p d x y) false := by
  unfold spec_l5Good.f
  refine Ev.bind hs ?_
  simp only [Bool.false_eq_true, if_false]
  exact Ev.now _
theorem are_ev {p d : Int} {b : Bool} (hi : Ev (fun k => impl_isCurve.f k p d) b) (l : List S29) (hl : l.length ≤ 1000) : Ev (fun k => impl_arePoints.f k p d l) (b && !badP p d l) := by
  unfold impl_arePoints.f
  have hl' : ¬ 1000 < l.length := by omega
  simp only [hl', if_false]
  refine Ev.bind hi ?_
  cases b
  · simp only [Bool.false_eq_true, if_false, Bool.false_and]; exact Ev.now _
  · simp only [if_true, Bool.true_and]; exact Ev.now _
theorem bad1 (p d : Int) (a : S29) : badP p d [a] = !okP p d a := by simp [badP]
theorem bad2 (p d : Int) (a b : S29) : badP p d [a, b] = (!okP p d a || !okP p d b) := by simp [badP]


theorem wr {z : Int} {n : Nat} (h : z = (n : Int)) (hn : n ≤ 1000000) : wrap64 z = (n : Int) := by
  subst h
  unfold wrap64
  omega
theorem tm {z : Int} {n : Nat} (p : Nat) (h : z = (n : Int)) (hn : n ≤ 1000000) : Int.tmod (wrap64 z) (p : Int) = ((n % p : Nat) : Int) := by
  rw [wr h hn, Int.tmod_eq_emod_of_nonneg (by omega)]
  simp
/-- m of two points -/
def mN (P D x1 y1 x2 y2 : Nat) : Nat := D * x1 % P * x2 % P * y1 % P * y2 % P
def xN (P D x1 y1 x2 y2 : Nat) : Nat := (x1 * y2 + y1 * x2) % P * (((1 + mN P D x1 y1 x2 y2) % P) ^ (P - 2) % P) % P
def yN (P D x1 y1 x2 y2 : Nat) : Nat := (y1 * y2 % P + P - x1 * x2 % P) % P * (((1 + P - mN P D x1 y1 x2 y2) % P) ^ (P - 2) % P) % P
theorem mul_le {a b P : Nat} (hP : P ≤ 199) (ha : a < P) (hb : b < P) : a * b ≤ 199 * 199 := Nat.mul_le_mul (by omega) (by omega)
theorem inv_ev {P a : Nat} (h5 : 5 ≤ P) (h1 : P ≤ 199) (ha : a < P) : Ev (fun k => spec_l4Inverse.f k (a : Int) (P : Int)) ((a ^ (P - 2) % P : Nat) : Int) := by
  unfold spec_l4Inverse.f
  have e : wrap64 ((P : Int) - 2) = ((P - 2 : Nat) : Int) := wr (by omega) (by omega)
  rw [e]
  exact Ev.bind (power_ev a (P - 2) P (by omega) (by omega) (by omega) ha).1 (Ev.now _)

theorem s_d1 {P m : Nat} (h1 : P ≤ 199) (hm : m < P) : Int.tmod (wrap64 (1 + (m : Int))) (P : Int) = (((1 + m) % P : Nat) : Int) := tm P (by omega) (by omega)
theorem s_d2 {P m : Nat} (h1 : P ≤ 199) (hm : m < P) : Int.tmod (wrap64 (wrap64 (1 + (P : Int)) - (m : Int))) (P : Int) = (((1 + P - m) % P : Nat) : Int) := by
  have e : wrap64 (1 + (P : Int)) = ((1 + P : Nat) : Int) := wr (by omega) (by omega)
  rw [e]
  exact tm P (by omega) (by omega)
theorem s_n1 {P a b : Nat} (ha : a ≤ 39601) (hb : b ≤ 39601) : Int.tmod (wrap64 ((a : Int) + (b : Int))) (P : Int) = (((a + b) % P : Nat) : Int) := tm P (by omega) (by omega)
theorem s_w {P a b : Nat} (h1 : P ≤ 199) (ha : a < P) (hb : b < P) : wrap64 ((a : Int) * (b : Int)) = ((a * b : Nat) : Int) := wr (by simp) (Nat.le_trans (mul_le h1 ha hb) (by decide))
theorem s_n5 {P a b : Nat} (h1 : P ≤ 199) (ha : a < P) (hb : b < P) : Int.tmod (wrap64 (wrap64 ((a : Int) + (P : Int)) - (b : Int))) (P : Int) = (((a + P - b) % P : Nat) : Int) := by
  have e : wrap64 ((a : Int) + (P : Int)) = ((a + P : Nat) : Int) := wr (by omega) (by omega)
  rw [e]
  exact tm P (by omega) (by omega)
theorem mN_lt {P D x1 y1 x2 y2 : Nat} (hpos : 0 < P) : mN P D x1 y1 x2 y2 < P := by unfold mN; exact Nat.mod_lt _ hpos

theorem spec_add_ev {P D x1 y1 x2 y2 : Nat} (h5 : 5 ≤ P) (h1 : P ≤ 199) (hD : D < P) (hx1 : x1 < P) (hy1 : y1 < P) (hx2 : x2 < P) (hy2 : y2 < P) :
    Ev (fun k => spec_l5Add.f k (P : Int) (D : Int) (x1 : Int) (y1 : Int) (x2 : Int) (y2 : Int)) ((xN P D x1 y1 x2 y2 : Int), (yN P D x1 y1 x2 y2 : Int)) := by
  have hpos : 0 < P := by omega
  have h7 : P ≤ 10007 := by omega
  have h0 : ¬ (P : Int) = 0 := by omega
  have em : ∀ k, spec_l5Add.f k (P : Int) (D : Int) (x1 : Int) (y1 : Int) (x2 : Int) (y2 : Int) =
      (spec_l4Inverse.f k (((1 + mN P D x1 y1 x2 y2) % P : Nat) : Int) (P : Int)).bind fun t => (spec_l4Inverse.f k (((1 + P - mN P D x1 y1 x2 y2) % P : Nat) : Int) (P : Int)).bind fun u =>
        some (Int.tmod (wrap64 ((((x1 * y2 + y1 * x2) % P : Nat) : Int) * t)) P, Int.tmod (wrap64 ((((y1 * y2 % P + P - x1 * x2 % P) % P : Nat) : Int) * u)) P) := by
    intro k
    unfold spec_l5Add.f
    rw [if_neg h0, wrap_mul hD hx1 h7, wrap_mul (Nat.mod_lt (D * x1) hpos) hx2 h7, wrap_mul (Nat.mod_lt (D * x1 % P * x2) hpos) hy1 h7, wrap_mul (Nat.mod_lt (D * x1 % P * x2 % P * y1) hpos) hy2 h7]
    have hm := mN_lt (P := P) (D := D) (x1 := x1) (y1 := y1) (x2 := x2) (y2 := y2) hpos
    unfold mN at hm ⊢
    rw [s_d1 h1 hm, s_d2 h1 hm, s_w h1 hx1 hy2, s_w h1 hy1 hx2, s_n1 (mul_le h1 hx1 hy2) (mul_le h1 hy1 hx2), wrap_mul hy1 hy2 h7, wrap_mul hx1 hx2 h7, s_n5 h1 (Nat.mod_lt _ hpos) (Nat.mod_lt _ hpos)]
  refine Ev.congr em ?_
  refine Ev.bind (inv_ev h5 h1 (Nat.mod_lt _ hpos)) (Ev.bind (inv_ev h5 h1 (Nat.mod_lt _ hpos)) ?_)
  rw [wrap_mul (Nat.mod_lt _ hpos) (Nat.mod_lt _ hpos) h7, wrap_mul (Nat.mod_lt _ hpos) (Nat.mod_lt _ hpos) h7]
  unfold xN yN
  exact Ev.now _

theorem ovN_ev {P : Nat} (h5 : 5 ≤ P) (h1 : P ≤ 199) (z : Int) : ovN (P : Int) z = z % (P : Int) := by
  unfold ovN
  have a1 : Int.tmod z (P : Int) < P := Int.tmod_lt_of_pos z (by omega)
  have a2 : -(P : Int) < Int.tmod z (P : Int) := Int.lt_tmod_of_pos z (by omega)
  have a3 : Int.tmod z (P : Int) % (P : Int) = z % (P : Int) := by
    rw [Int.tmod_def]
    exact Int.sub_mul_emod_self_left _ _ _
  generalize Int.tmod z (P : Int) = t at a1 a2 a3 ⊢
  have e : wrap64 (t + P) = t + P := by unfold wrap64; omega
  rw [e, Int.tmod_eq_emod_of_nonneg (by omega), Int.add_emod_right, a3]

theorem ovF_ev {P n d : Nat} (h5 : 5 ≤ P) (h1 : P ≤ 199) (hn : n < P) (hd : d < P) {zn zd : Int} (en : zn % (P : Int) = (n : Int)) (ed : zd % (P : Int) = (d : Int)) :
    Ev (fun k => ovF k (P : Int) zn zd) ((n * (d ^ (P - 2) % P) % P : Nat) : Int) := by
  unfold ovF
  rw [ovN_ev h5 h1, ovN_ev h5 h1, en, ed]
  have e : ((P : Int) - 2) = ((P - 2 : Nat) : Int) := by omega
  rw [e]
  refine Ev.bind (power_ev d (P - 2) P (by omega) (by omega) (by omega) hd).2 ?_
  rw [wrap_mul hn (Nat.mod_lt _ (by omega)) (by omega)]
  exact Ev.now _

section
variable {P D x1 y1 x2 y2 : Nat} (h5 : 5 ≤ P) (h1 : P ≤ 199) (hD : D < P) (hx1 : x1 < P) (hy1 : y1 < P) (hx2 : x2 < P) (hy2 : y2 < P)
theorem tmul (a b P : Nat) : Int.tmod ((a : Int) * (b : Int)) (P : Int) = ((a * b % P : Nat) : Int) := by
  rw [← Int.natCast_mul, Int.tmod_eq_emod_of_nonneg (by omega), ← Int.natCast_emod]
theorem addM_eq : addM (P : Int) (D : Int) (x1 : Int) (y1 : Int) (x2 : Int) (y2 : Int) = (mN P D x1 y1 x2 y2 : Int) := by
  unfold addM mN
  rw [tmul, tmul, tmul, tmul]
include h5 h1 hD hx1 hy1 hx2 hy2
theorem impl_add_ev : Ev (fun k => impl_addPoints.f k (P : Int) (D : Int) (x1 : Int) (y1 : Int) (x2 : Int) (y2 : Int)) ((xN P D x1 y1 x2 y2 : Int), (yN P D x1 y1 x2 y2 : Int)) := by
  unfold impl_addPoints.f
  have hpos : 0 < P := by omega
  have hb : ((5 ≤ (P : Int) ∧ (P : Int) ≤ 199) ∧ (0 ≤ (D : Int) ∧ (D : Int) ≤ (P : Int) - 1) ∧ (0 ≤ (x1 : Int) ∧ (x1 : Int) ≤ (P : Int) - 1) ∧ (0 ≤ (y1 : Int) ∧ (y1 : Int) ≤ (P : Int) - 1) ∧ (0 ≤ (x2 : Int) ∧ (x2 : Int) ≤ (P : Int) - 1) ∧ (0 ≤ (y2 : Int) ∧ (y2 : Int) ≤ (P : Int) - 1)) := by omega
  rw [addM_eq]
  simp only [hb, and_self, if_true]
  have hm := mN_lt (P := P) (D := D) (x1 := x1) (y1 := y1) (x2 := x2) (y2 := y2) hpos
  have l2 : y1 * y2 % P < P := Nat.mod_lt _ hpos
  have l3 : x1 * x2 % P < P := Nat.mod_lt _ hpos
  refine Ev.bind (ovF_ev h5 h1 (n := (x1 * y2 + y1 * x2) % P) (d := (1 + mN P D x1 y1 x2 y2) % P) (Nat.mod_lt _ hpos) (Nat.mod_lt _ hpos) (by simp) (by simp)) ?_
  refine Ev.bind (ovF_ev h5 h1 (n := (y1 * y2 % P + P - x1 * x2 % P) % P) (d := (1 + P - mN P D x1 y1 x2 y2) % P) (Nat.mod_lt _ hpos) (Nat.mod_lt _ hpos) ?_ ?_) (Ev.now _)
  · have e1 : ((y1 * y2 % P + P - x1 * x2 % P : Nat) : Int) = ((y1 * y2 : Nat) : Int) - ((x1 * x2 : Nat) : Int) + (P : Int) * (1 - ((y1 * y2 / P : Nat) : Int) + ((x1 * x2 / P : Nat) : Int)) := by
      have u := Nat.div_add_mod (y1 * y2) P
      have v := Nat.div_add_mod (x1 * x2) P
      have u' : ((y1 * y2 : Nat) : Int) = (P : Int) * ((y1 * y2 / P : Nat) : Int) + ((y1 * y2 % P : Nat) : Int) := by rw [← Int.natCast_mul, ← Int.natCast_add, u]
      have v' : ((x1 * x2 : Nat) : Int) = (P : Int) * ((x1 * x2 / P : Nat) : Int) + ((x1 * x2 % P : Nat) : Int) := by rw [← Int.natCast_mul, ← Int.natCast_add, v]
      have w : ((y1 * y2 % P + P - x1 * x2 % P : Nat) : Int) = ((y1 * y2 % P : Nat) : Int) + (P : Int) - ((x1 * x2 % P : Nat) : Int) := by omega
      rw [w, u', v']
      generalize ((y1 * y2 / P : Nat) : Int) = a
      generalize ((x1 * x2 / P : Nat) : Int) = b
      generalize ((y1 * y2 % P : Nat) : Int) = c
      generalize ((x1 * x2 % P : Nat) : Int) = d
      grind
    rw [Int.natCast_emod, e1, Int.add_mul_emod_self_left, Int.natCast_mul, Int.natCast_mul]
  · have e1 : ((1 + P - mN P D x1 y1 x2 y2 : Nat) : Int) = (1 - (mN P D x1 y1 x2 y2 : Int)) + (P : Int) := by omega
    rw [Int.natCast_emod, e1, Int.add_emod_right]
end
theorem xN_lt {P D x1 y1 x2 y2 : Nat} (h5 : 5 ≤ P) : xN P D x1 y1 x2 y2 < P := by unfold xN; exact Nat.mod_lt _ (by omega)
theorem yN_lt {P D x1 y1 x2 y2 : Nat} (h5 : 5 ≤ P) : yN P D x1 y1 x2 y2 < P := by unfold yN; exact Nat.mod_lt _ (by omega)
theorem ok_nat {P D : Nat} {x y : Int} (h : okP (P : Int) (D : Int) ⟨x, y⟩ = true) : ∃ a b : Nat, x = (a : Int) ∧ y = (b : Int) ∧ a < P ∧ b < P := by
  unfold okP at h
  simp only [Bool.and_eq_true, decide_eq_true_eq] at h
  exact ⟨x.toNat, y.toNat, by omega, by omega, by omega, by omega⟩
theorem eq_pt (r : Int × Int × Bool) : laws_eqPoint.f r.1 r.2.1 r.1 r.2.1 = some true := by
  unfold laws_eqPoint.f
  simp


theorem half_ev {n : Nat} (hn : n ≤ 1000000) : wrap64 (Int.tdiv (n : Int) 2) = ((n / 2 : Nat) : Int) := by
  rw [Int.tdiv_eq_ediv_of_nonneg (by omega)]
  exact wr (by simp) (by omega)

theorem loops {P D : Nat} (h5 : 5 ≤ P) (h1 : P ≤ 199) (hD : D < P) : ∀ n : Nat, n ≤ 1000000 → ∀ a b s t : Nat, a < P → b < P → s < P → t < P →
    ∃ u v : Int, Ev (fun k => spec_l5Times.l0 k (n : Int) (P : Int) (D : Int) (a : Int) (b : Int) (s : Int) (t : Int)) (u, v) ∧ Ev (fun k => impl_TimesPoint.l0 k (n : Int) (P : Int) (D : Int) (a : Int) (b : Int) (s : Int) (t : Int)) (u, v, true) := by
  intro n
  induction n using Nat.strongRecOn with
  | _ n ih =>
    intro hn a b s t ha hb hs ht
    by_cases h0 : n = 0
    · subst h0
      refine ⟨(s : Int), (t : Int), Ev.step (fun k => ?_) (Ev.now _), Ev.step (fun k => ?_) (Ev.now _)⟩
      · simp [spec_l5Times.l0]
      · simp [impl_TimesPoint.l0]
    · have hpos : (n : Int) > 0 := by omega
      have s1 := spec_add_ev h5 h1 hD ha hb ha hb
      have i1 := impl_add_ev h5 h1 hD ha hb ha hb
      have s2 := spec_add_ev h5 h1 hD hs ht ha hb
      have i2 := impl_add_ev h5 h1 hD hs ht ha hb
      have e2 : Int.tmod (n : Int) 2 = ((n % 2 : Nat) : Int) := by rw [Int.tmod_eq_emod_of_nonneg (by omega)]; simp
      by_cases hodd : n % 2 = 1
      · obtain ⟨u, v, hs', hi'⟩ := ih (n / 2) (by omega) (by omega) _ _ _ _ (xN_lt (D := D) (x1 := a) (y1 := b) (x2 := a) (y2 := b) h5) (yN_lt (D := D) (x1 := a) (y1 := b) (x2 := a) (y2 := b) h5) (xN_lt (D := D) (x1 := s) (y1 := t) (x2 := a) (y2 := b) h5) (yN_lt (D := D) (x1 := s) (y1 := t) (x2 := a) (y2 := b) h5)
        refine ⟨u, v, Ev.step (fun k => by simp only [spec_l5Times.l0]; rw [if_pos hpos, e2, hodd, half_ev hn]; try rfl) ?_, Ev.step (fun k => by simp only [impl_TimesPoint.l0]; rw [if_pos hpos, e2, hodd, half_ev hn]; try rfl) ?_⟩
        · exact Ev.bind s2 (Ev.bind s1 hs')
        · exact Ev.bind i2 (Ev.bind i1 hi')
      · have h2 : n % 2 = 0 := by omega
        obtain ⟨u, v, hs', hi'⟩ := ih (n / 2) (by omega) (by omega) _ _ _ _ (xN_lt (D := D) (x1 := a) (y1 := b) (x2 := a) (y2 := b) h5) (yN_lt (D := D) (x1 := a) (y1 := b) (x2 := a) (y2 := b) h5) hs ht
        refine ⟨u, v, Ev.step (fun k => by simp only [spec_l5Times.l0]; rw [if_pos hpos, e2, h2, half_ev hn]; try rfl) ?_, Ev.step (fun k => by simp only [impl_TimesPoint.l0]; rw [if_pos hpos, e2, h2, half_ev hn]; try rfl) ?_⟩
        · exact Ev.bind s1 hs'
        · exact Ev.bind i1 hi'

theorem both_ev (p d n x y : Int) : ∃ r, Ev (fun k => spec_TimesPoint.f k p d n x y) r ∧ Ev (fun k => impl_TimesPoint.f k p d n x y) r := by
  unfold spec_TimesPoint.f impl_TimesPoint.f
  simp only [in_ev, within_ev, Option.bind_some]
  have hj : ∀ m x y, Ev (fun k => impl_TimesPoint.j0 k m true p d x y) (0, 0, false) := fun m x y => Ev.step (fun k => by simp only [impl_TimesPoint.j0, if_true]) (Ev.now _)
  rcases curve_ev p d with ⟨P, D, rfl, rfl, hc, hs, hi⟩ | ⟨hs, hi⟩
  · have h1 := good_ev hc hs x y
    have h3 := are_ev hi [⟨x, y⟩] (by simp)
    rw [bad1] at h3
    cases hb : okP (P : Int) (D : Int) ⟨x, y⟩ with
    | true =>
      rw [hb] at h1 h3
      obtain ⟨a, b, rfl, rfl, ha, hb⟩ := ok_nat hb
      obtain ⟨c1, c2, _, _, c5, _⟩ := hc
      by_cases hn : 0 ≤ n ∧ n ≤ 100000
      · obtain ⟨m, rfl⟩ : ∃ m : Nat, n = (m : Int) := ⟨n.toNat, by omega⟩
        obtain ⟨u, v, hs', hi'⟩ := loops c1 c2 c5 m (by omega) a b 0 1 ha hb (by omega) (by omega)
        refine ⟨(u, v, true), Ev.bind h1 ?_, Ev.bind h3 ?_⟩
        · simp only [hn, and_self, decide_true, if_true]
          exact Ev.bind hs' (Ev.now _)
        · simp only [hn, and_self, decide_true, Bool.not_true, Bool.not_false, Bool.true_and, if_true]
          refine Ev.step (fun k => by simp only [impl_TimesPoint.j0, Bool.false_eq_true, if_false]; try rfl) hi'
      · refine ⟨(0, 0, false), Ev.bind h1 ?_, Ev.bind h3 ?_⟩
        · simp only [hn, decide_false, if_true, Bool.false_eq_true, if_false]
          exact Ev.now _
        · simp only [hn, decide_false, Bool.not_true, Bool.not_false, Bool.true_and, if_true]
          exact hj _ _ _
    | false =>
      rw [hb] at h1 h3
      exact ⟨(0, 0, false), Ev.bind h1 (Ev.now _), Ev.bind h3 (hj _ _ _)⟩
  · have h1 := good_no hs x y
    have h3 := are_ev hi [⟨x, y⟩] (by simp)
    exact ⟨(0, 0, false), Ev.bind h1 (Ev.now _), Ev.bind h3 (hj _ _ _)⟩

theorem FnExactTimesPoint (a0 a1 a2 a3 a4 : Int) : ∃ k, laws_FnExactTimesPoint.f k a0 a1 a2 a3 a4 = some true := by
  obtain ⟨r, hs, hi⟩ := both_ev a0 a1 a2 a3 a4
  refine Ev.rounds (Ev.congr (fun k => by unfold laws_FnExactTimesPoint.f laws_toCurve.f laws_toPoint.f; rfl) (Ev.bind hs (Ev.bind hi ?_)))
  simp only [eq_pt, Option.bind_some, if_true, if_false, bne_self_eq_false, Bool.false_eq_true]
  exact Ev.now _

end Go.Proofs.Ytghikmnjccgchaa.Pure
