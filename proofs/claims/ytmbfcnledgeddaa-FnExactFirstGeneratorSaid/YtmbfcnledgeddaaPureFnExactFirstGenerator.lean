/- The law FnExactFirstGenerator answers true for every number. No condition. -/
import Derived.Test.YtmbfcnledgeddaaPFnExactFirstGeneratorx1
import Derived.Test.YtmbfcnledgeddaaGEN
namespace Go.Proofs.Ytmbfcnledgeddaa.Pure
open Go.RowKit Go.Proofs.Ytmbfcnledgeddaa.PFnExactFirstGenerator Go.Proofs.YtmbfcnledgeddaaW.PrintWords Go.Proofs.YtmbfcnledgeddaaW.PrintLast Go.Proofs.YtmbfcnledgeddaaW.PrintMore
open Go.Proofs.Ytmbfcnledgeddaa

theorem prime_same : ∀ (k : Nat) (x y : Int), impl_isPrime.l0 k x y = spec_l4Prime.l0 k x y := by
  intro k
  induction k with
  | zero => intro x y; rfl
  | succ k ih => intro x y; simp only [impl_isPrime.l0, spec_l4Prime.l0, ih]

theorem prime_loop (n : Nat) (hn : n ≤ 10007) : ∀ (t d : Nat), 2 ≤ d → d + t = 102 → (∀ e, 2 ≤ e → e < d → ¬ e ∣ n) →
    ∃ b, Ev (fun k => spec_l4Prime.l0 k (n : Int) (d : Int)) b ∧ (b = true ↔ NT.Pr n) := by
  intro t
  induction t with
  | zero =>
    intro d hd ht hno
    obtain rfl : d = 102 := by omega
    refine ⟨decide (n > 1), Ev.step (f := fun _ => some (decide (n > 1))) (fun k => ?_) (Ev.now _), ?_⟩
    · simp only [spec_l4Prime.l0]
      have hw : wrap64 (((102 : Nat) : Int) * ((102 : Nat) : Int)) = 10404 := by unfold wrap64; omega
      rw [hw, if_neg (by omega)]
      congr 1
      simp
      omega
    · rw [decide_eq_true_eq]
      refine ⟨fun h => ⟨h, fun e h2 h3 => ?_⟩, fun h => h.1⟩
      refine hno e h2 ?_
      apply Nat.lt_of_not_le
      intro hge
      have := Nat.mul_le_mul hge hge
      omega
  | succ t ih =>
    intro d hd ht hno
    have hw : wrap64 ((d : Int) * (d : Int)) = ((d * d : Nat) : Int) := by
      have h1 : d * d ≤ 102 * 102 := Nat.mul_le_mul (by omega) (by omega)
      have h2 : ((d * d : Nat) : Int) = (d : Int) * (d : Int) := by simp
      rw [← h2]
      unfold wrap64
      omega
    by_cases h1 : d * d ≤ n
    · have hm : Int.tmod (n : Int) (d : Int) = ((n % d : Nat) : Int) := by rw [Int.tmod_eq_emod_of_nonneg (by omega)]; simp
      by_cases h2 : n % d = 0
      · refine ⟨false, Ev.step (f := fun _ => some false) (fun k => ?_) (Ev.now _), ?_⟩
        · simp only [spec_l4Prime.l0]
          rw [hw, if_pos (by omega), if_neg (by omega), hm, if_pos (by omega)]
        · simp only [Bool.false_eq_true, false_iff]
          intro hp
          exact hp.2 d hd h1 (Nat.dvd_of_mod_eq_zero h2)
      · obtain ⟨b, hb, hiff⟩ := ih (d + 1) (by omega) (by omega) (by
          intro e he1 he2
          by_cases h3 : e = d
          · subst h3
            intro hdv
            exact h2 (Nat.mod_eq_zero_of_dvd hdv)
          · exact hno e he1 (by omega))
        refine ⟨b, Ev.step (fun k => ?_) hb, hiff⟩
        simp only [spec_l4Prime.l0]
        have hw2 : wrap64 ((d : Int) + 1) = ((d + 1 : Nat) : Int) := by unfold wrap64; omega
        rw [hw, if_pos (by omega), if_neg (by omega), hm, if_neg (by omega), hw2]
    · refine ⟨decide (n > 1), Ev.step (f := fun _ => some (decide (n > 1))) (fun k => ?_) (Ev.now _), ?_⟩
      · simp only [spec_l4Prime.l0]
        rw [hw, if_neg (by omega)]
        congr 1
        simp
        omega
      · rw [decide_eq_true_eq]
        refine ⟨fun h => ⟨h, fun e h2 h3 => ?_⟩, fun h => h.1⟩
        refine hno e h2 ?_
        apply Nat.lt_of_not_le
        intro hge
        have := Nat.mul_le_mul hge hge
        omega

theorem prime_ev (n : Nat) (hn : n ≤ 10007) : ∃ b, Ev (fun k => spec_l4Prime.f k (n : Int)) b ∧ Ev (fun k => impl_isPrime.f k (n : Int)) b ∧ (b = true ↔ NT.Pr n) := by
  obtain ⟨b, hb, hiff⟩ := prime_loop n hn 100 2 (by omega) (by omega) (fun e h1 h2 => by omega)
  refine ⟨b, hb, Ev.congr (fun k => ?_) hb, hiff⟩
  unfold impl_isPrime.f
  rw [prime_same]
  rfl


def Md (p : Int) : Prop := 3 ≤ p ∧ p ≤ 10007 ∧ NT.Pr p.toNat

theorem modulus_ev (p : Int) : (Md p → Ev (fun k => impl_isModulus.f k p) true) ∧ (¬ Md p → Ev (fun k => impl_isModulus.f k p) false) := by
  unfold impl_isModulus.f impl_within.f
  by_cases h1 : p ≥ 3
  · by_cases h2 : p ≤ 10007
    · obtain ⟨n, rfl⟩ : ∃ n : Nat, p = (n : Int) := ⟨p.toNat, by omega⟩
      obtain ⟨b, _, hb, hiff⟩ := prime_ev n (by omega)
      simp only [h1, h2, if_true, decide_true, Option.bind_some]
      have hb' : Ev (fun k => (impl_isPrime.f k (n : Int)).bind fun t => some t) b := Ev.bind hb (Ev.now _)
      constructor
      · intro h
        have : b = true := hiff.mpr (by simpa using h.2.2)
        subst this
        exact hb'
      · intro h
        have : b = false := by
          cases b
          · rfl
          · exact absurd ⟨by omega, by omega, by simpa using hiff.mp rfl⟩ h
        subst this
        exact hb'
    · refine ⟨fun h => absurd h.2.1 h2, fun _ => ?_⟩
      simp only [h1, h2, if_true, decide_false, Option.bind_some, Bool.false_eq_true, if_false]
      exact Ev.now _
  · refine ⟨fun h => absurd h.1 h1, fun _ => ?_⟩
    simp only [h1, if_false, Option.bind_some, Bool.false_eq_true]
    exact Ev.now _

theorem of_ev (a p : Int) : (Md p ∧ 0 ≤ a ∧ a < p → Ev (fun k => spec_l4Of.f k a p) true) ∧ (¬ (Md p ∧ 0 ≤ a ∧ a < p) → Ev (fun k => spec_l4Of.f k a p) false) := by
  unfold spec_l4Of.f spec_l1In.f
  by_cases h1 : p ≥ 3
  · by_cases h2 : p ≤ 10007
    · have hw : wrap64 (p - 1) = p - 1 := by unfold wrap64; omega
      obtain ⟨n, rfl⟩ : ∃ n : Nat, p = (n : Int) := ⟨p.toNat, by omega⟩
      obtain ⟨b, hb, _, hiff⟩ := prime_ev n (by omega)
      simp only [h1, h2, if_true, decide_true, Option.bind_some, hw]
      by_cases h3 : a ≥ 0
      · by_cases h4 : a ≤ (n : Int) - 1
        · simp only [h3, h4, if_true, decide_true, Option.bind_some]
          have hb' : Ev (fun k => (spec_l4Prime.f k (n : Int)).bind fun t => some t) b := Ev.bind hb (Ev.now _)
          constructor
          · intro h
            have : b = true := hiff.mpr (by simpa using h.1.2.2)
            subst this
            exact hb'
          · intro h
            have : b = false := by
              cases b
              · rfl
              · exact (h ⟨⟨h1, h2, by simpa using hiff.mp rfl⟩, trivial, by omega⟩).elim
            subst this
            exact hb'
        · refine ⟨fun h => absurd h.2.2 (by omega), fun _ => ?_⟩
          simp only [h3, h4, if_true, decide_false, Option.bind_some, Bool.false_eq_true, if_false]
          exact Ev.now _
      · refine ⟨fun h => absurd h.2.1 h3, fun _ => ?_⟩
        simp only [h3, if_false, Option.bind_some, Bool.false_eq_true]
        exact Ev.now _
    · refine ⟨fun h => absurd h.1.2.1 h2, fun _ => ?_⟩
      simp only [h1, h2, if_true, decide_false, Option.bind_some, Bool.false_eq_true, if_false]
      exact Ev.now _
  · refine ⟨fun h => absurd h.1.1 h1, fun _ => ?_⟩
    simp only [h1, if_false, Option.bind_some, Bool.false_eq_true]
    exact Ev.now _

theorem within_ev (a lo hi : Int) : impl_within.f a lo hi = some (decide (lo ≤ a ∧ a ≤ hi)) := by
  unfold impl_within.f
  by_cases h : a ≥ lo
  · rw [if_pos h]; congr 1; simp; omega
  · rw [if_neg h]; congr 1; simp; omega
theorem in_ev (a lo hi : Int) : spec_l1In.f a lo hi = some (decide (lo ≤ a ∧ a ≤ hi)) := by
  unfold spec_l1In.f
  by_cases h : a ≥ lo
  · rw [if_pos h]; congr 1; simp; omega
  · rw [if_neg h]; congr 1; simp; omega

theorem bTrue {α : Type} {g : Nat → Option Bool} {f : Nat → Option α} {z : α} {r : α} (hg : Ev g true) (hf : Ev f r) : Ev (fun k => (g k).bind fun t => if t = true then f k else some z) r :=
  Ev.bind hg (f := fun k t => if t = true then f k else some z) (by simpa using hf)
theorem bFalse {α : Type} {g : Nat → Option Bool} {f : Nat → Option α} {z : α} (hg : Ev g false) : Ev (fun k => (g k).bind fun t => if t = true then f k else some z) z :=
  Ev.bind hg (f := fun k t => if t = true then f k else some z) (by simpa using Ev.now z)


theorem order_same : ∀ (k : Nat) (x y z t : Int), impl_orderMod.l0 k x y z t = spec_l4Order.l0 k x y z t := by
  intro k
  induction k with
  | zero => intro x y z t; rfl
  | succ k ih => intro x y z t; simp only [impl_orderMod.l0, spec_l4Order.l0, ih]

theorem wrap_mul {x y p : Nat} (hx : x < p) (hy : y < p) (hp : p ≤ 10007) : Int.tmod (wrap64 ((x : Int) * (y : Int))) (p : Int) = ((x * y % p : Nat) : Int) := by
  have h1 : x * y ≤ 10007 * 10007 := Nat.mul_le_mul (by omega) (by omega)
  have h2 : ((x * y : Nat) : Int) = (x : Int) * (y : Int) := by simp
  have h3 : wrap64 ((x : Int) * (y : Int)) = ((x * y : Nat) : Int) := by rw [← h2]; unfold wrap64; omega
  rw [h3, Int.tmod_eq_emod_of_nonneg (by omega)]
  simp

theorem order_loop (a p o : Nat) (ha : a < p) (hp2 : 2 ≤ p) (hp : p ≤ 10007) (ho : o ≤ 10007) (h1 : a ^ o % p = 1) (hl : ∀ j, 0 < j → j < o → a ^ j % p ≠ 1) :
    ∀ (t j : Nat), 0 < j → j + t = o → Ev (fun k => spec_l4Order.l0 k (a : Int) (p : Int) (j : Int) ((a ^ j % p : Nat) : Int)) (o : Int) := by
  intro t
  induction t with
  | zero =>
    intro j hj ht
    obtain rfl : j = o := by omega
    refine Ev.step (f := fun _ => some _) (fun k => ?_) (Ev.now _)
    simp only [spec_l4Order.l0]
    rw [h1, if_pos (by rfl)]
  | succ t ih =>
    intro j hj ht
    have h2 := hl j hj (by omega)
    refine Ev.step (fun k => ?_) (ih (j + 1) (by omega) (by omega))
    simp only [spec_l4Order.l0]
    have hw : wrap64 ((j : Int) + 1) = ((j + 1 : Nat) : Int) := by unfold wrap64; omega
    have e : a ^ j % p * a % p = a ^ (j + 1) % p := by rw [Nat.mod_mul_mod, Nat.pow_succ]
    rw [if_neg (by omega), if_neg (by omega), hw, wrap_mul (Nat.mod_lt _ (by omega)) ha hp, e]

theorem order_ev (a p : Nat) (hp : NT.Pr p) (h3 : 3 ≤ p) (h4 : p ≤ 10007) (ha0 : 0 < a) (ha : a < p) :
    ∃ o : Nat, 0 < o ∧ o ≤ p - 1 ∧ a ^ o % p = 1 ∧ (∀ j, 0 < j → j < o → a ^ j % p ≠ 1) ∧ Ev (fun k => spec_l4Order.f k (a : Int) (p : Int)) (o : Int) ∧ Ev (fun k => impl_orderMod.f k (a : Int) (p : Int)) (o : Int) := by
  have ha' : ¬ p ∣ a := fun hd => by have := Nat.le_of_dvd ha0 hd; omega
  obtain ⟨o, o0, o1, o2, o3, _⟩ := hp.order ha'
  have h := order_loop a p o ha (by omega) h4 (by omega) o2 o3 (o - 1) 1 (by omega) (by omega)
  rw [Nat.pow_one, Nat.mod_eq_of_lt ha] at h
  refine ⟨o, o0, o1, o2, o3, h, Ev.congr (fun k => ?_) h⟩
  unfold impl_orderMod.f
  rw [order_same]
  rfl


theorem first_loop (p g : Nat) (hp : NT.Pr p) (h3 : 3 ≤ p) (h4 : p ≤ 10007) (hg : g < p) (hg0 : 0 < g) (hgen : ∀ k, 0 < k → k < p - 1 → g ^ k % p ≠ 1) :
    ∀ (t a : Nat), 0 < a → a + t = g → ∃ r, Ev (fun k => spec_FirstGenerator.l0 k (p : Int) (a : Int)) r ∧ Ev (fun k => impl_FirstGenerator.l0 k (p : Int) (a : Int)) r := by
  have hw : wrap64 ((p : Int) - 1) = (p : Int) - 1 := by unfold wrap64; omega
  intro t
  induction t with
  | zero =>
    intro a ha ht
    obtain rfl : a = g := by omega
    obtain ⟨o, o0, o1, o2, o3, hs, hi⟩ := order_ev a p hp h3 h4 ha hg
    have ho : o = p - 1 := by
      apply Classical.byContradiction
      intro hne
      exact hgen o o0 (by omega) o2
    refine ⟨((a : Int), true), Ev.step (f := fun k => (spec_l4Order.f k (a : Int) (p : Int)).bind fun t => if t < (p : Int) - 1 then spec_FirstGenerator.l0 k (p : Int) (wrap64 ((a : Int) + 1)) else some ((a : Int), true)) (fun k => ?_) ?_,
      Ev.step (f := fun k => (impl_orderMod.f k (a : Int) (p : Int)).bind fun t => if t = (p : Int) - 1 then some ((a : Int), true) else impl_FirstGenerator.l0 k (p : Int) (wrap64 ((a : Int) + 1))) (fun k => ?_) ?_⟩
    · simp only [spec_FirstGenerator.l0, hw]
    · refine Ev.bind hs ?_
      simp only [if_neg (show ¬ ((o : Int) < (p : Int) - 1) by omega)]
      exact Ev.now _
    · simp only [impl_FirstGenerator.l0, hw]
      rw [if_pos (by omega)]
    · refine Ev.bind hi ?_
      simp only [if_pos (show ((o : Int) = (p : Int) - 1) by omega)]
      exact Ev.now _
  | succ t ih =>
    intro a ha ht
    obtain ⟨o, o0, o1, o2, o3, hs, hi⟩ := order_ev a p hp h3 h4 ha (by omega)
    have hwa : wrap64 ((a : Int) + 1) = ((a + 1 : Nat) : Int) := by unfold wrap64; omega
    obtain ⟨r, hr, hr'⟩ := ih (a + 1) (by omega) (by omega)
    by_cases ho : o = p - 1
    · refine ⟨((a : Int), true), Ev.step (f := fun k => (spec_l4Order.f k (a : Int) (p : Int)).bind fun t => if t < (p : Int) - 1 then spec_FirstGenerator.l0 k (p : Int) (wrap64 ((a : Int) + 1)) else some ((a : Int), true)) (fun k => ?_) ?_,
        Ev.step (f := fun k => (impl_orderMod.f k (a : Int) (p : Int)).bind fun t => if t = (p : Int) - 1 then some ((a : Int), true) else impl_FirstGenerator.l0 k (p : Int) (wrap64 ((a : Int) + 1))) (fun k => ?_) ?_⟩
      · simp only [spec_FirstGenerator.l0, hw]
      · refine Ev.bind hs ?_
        simp only [if_neg (show ¬ ((o : Int) < (p : Int) - 1) by omega)]
        exact Ev.now _
      · simp only [impl_FirstGenerator.l0, hw]
        rw [if_pos (by omega)]
      · refine Ev.bind hi ?_
        simp only [if_pos (show ((o : Int) = (p : Int) - 1) by omega)]
        exact Ev.now _
    · refine ⟨r, Ev.step (f := fun k => (spec_l4Order.f k (a : Int) (p : Int)).bind fun t => if t < (p : Int) - 1 then spec_FirstGenerator.l0 k (p : Int) (wrap64 ((a : Int) + 1)) else some ((a : Int), true)) (fun k => ?_) ?_,
        Ev.step (f := fun k => (impl_orderMod.f k (a : Int) (p : Int)).bind fun t => if t = (p : Int) - 1 then some ((a : Int), true) else impl_FirstGenerator.l0 k (p : Int) (wrap64 ((a : Int) + 1))) (fun k => ?_) ?_⟩
      · simp only [spec_FirstGenerator.l0, hw]
      · refine Ev.bind hs ?_
        simp only [if_pos (show ((o : Int) < (p : Int) - 1) by omega), hwa]
        exact hr
      · simp only [impl_FirstGenerator.l0, hw]
        rw [if_pos (by omega)]
      · refine Ev.bind hi ?_
        simp only [if_neg (show ¬ ((o : Int) = (p : Int) - 1) by omega), hwa]
        exact hr'

theorem both_ev (p : Int) : ∃ r, Ev (fun k => spec_FirstGenerator.f k p) r ∧ Ev (fun k => impl_FirstGenerator.f k p) r := by
  unfold spec_FirstGenerator.f impl_FirstGenerator.f
  by_cases h1 : Md p
  · have h4 := h1.1
    have h5 := h1.2.1
    obtain ⟨z, rfl⟩ : ∃ m : Nat, p = (m : Int) := ⟨p.toNat, by omega⟩
    have hp : NT.Pr z := by simpa using h1.2.2
    obtain ⟨g, hg2, hgd, hgen⟩ := hp.generator (by omega) (by omega)
    have hgm : 0 < g % z := Nat.pos_of_ne_zero (fun h => hgd (Nat.dvd_of_mod_eq_zero h))
    obtain ⟨r, hs, hi⟩ := first_loop z (g % z) hp (by omega) (by omega) (Nat.mod_lt _ (by omega)) hgm
      (fun k k0 k1 => by rw [← Nat.pow_mod]; exact hgen k k0 k1) (g % z - 1) 1 (by omega) (by omega)
    exact ⟨r, bTrue ((of_ev _ _).1 ⟨h1, by omega, by omega⟩) hs, bTrue ((modulus_ev _).1 h1) hi⟩
  · exact ⟨(0, false), bFalse ((of_ev _ _).2 (fun h => h1 h.1)), bFalse ((modulus_ev _).2 h1)⟩

theorem FnExactFirstGenerator : laws_FnExactFirstGenerator.Pure := by
  intro a0 _
  obtain ⟨r, hs, hi⟩ := both_ev a0
  refine Ev.rounds (Ev.congr (fun k => by unfold laws_FnExactFirstGenerator.f; rfl) (Ev.bind hs (Ev.bind hi ?_)))
  simp only [if_true, if_false, bne_self_eq_false, Bool.false_eq_true]
  exact Ev.now _

end Go.Proofs.Ytmbfcnledgeddaa.Pure
