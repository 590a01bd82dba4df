/- The law FnExactIsPrime answers true for every number. No condition. -/
import Derived.Test.YtmbfcnledgeddaaPFnExactIsPrimex1
import Derived.Test.YtmbfcnledgeddaaNT
namespace Go.Proofs.Ytmbfcnledgeddaa.Pure
open Go.RowKit Go.Proofs.Ytmbfcnledgeddaa.PFnExactIsPrime Go.Proofs.YtmbfcnledgeddaaW.PrintWords Go.Proofs.YtmbfcnledgeddaaW.PrintLast Go.Proofs.YtmbfcnledgeddaaW.PrintMore
open Go.Proofs.Ytmbfcnledgeddaa

theorem prime_same : ∀ (k : Nat) (x y : Int), impl_isPrime.l0 k x y = spec_l4Prime.l0 k x y := by
  intro k
  induction k with
  | zero => intro x y; rfl
  | succ k ih => intro x y; simp only [impl_isPrime.l0, spec_l4Prime.l0, ih]

theorem prime_loop (n : Nat) (hn : n ≤ 10007) : ∀ (t d : Nat), 2 ≤ d → d + t = 102 → (∀ e, 2 ≤ e → e < d → ¬ e ∣ n) →
    ∃ b, Ev (fun k => spec_l4Prime.l0 k (n : Int) (d : Int)) b ∧ (b = true ↔ NT.Pr n) := by
  intro t
  induction t with
  | zero =>
    intro d hd ht hno
    obtain rfl : d = 102 := by omega
    refine ⟨decide (n > 1), Ev.step (f := fun _ => some (decide (n > 1))) (fun k => ?_) (Ev.now _), ?_⟩
    · simp only [spec_l4Prime.l0]
      have hw : wrap64 (((102 : Nat) : Int) * ((102 : Nat) : Int)) = 10404 := by unfold wrap64; omega
      rw [hw, if_neg (by omega)]
      congr 1
      simp
      omega
    · rw [decide_eq_true_eq]
      refine ⟨fun h => ⟨h, fun e h2 h3 => ?_⟩, fun h => h.1⟩
      refine hno e h2 ?_
      apply Nat.lt_of_not_le
      intro hge
      have := Nat.mul_le_mul hge hge
      omega
  | succ t ih =>
    intro d hd ht hno
    have hw : wrap64 ((d : Int) * (d : Int)) = ((d * d : Nat) : Int) := by
      have h1 : d * d ≤ 102 * 102 := Nat.mul_le_mul (by omega) (by omega)
      have h2 : ((d * d : Nat) : Int) = (d : Int) * (d : Int) := by simp
      rw [← h2]
      unfold wrap64
      omega
    by_cases h1 : d * d ≤ n
    · have hm : Int.tmod (n : Int) (d : Int) = ((n % d : Nat) : Int) := by rw [Int.tmod_eq_emod_of_nonneg (by omega)]; simp
      by_cases h2 : n % d = 0
      · refine ⟨false, Ev.step (f := fun _ => some false) (fun k => ?_) (Ev.now _), ?_⟩
        · simp only [spec_l4Prime.l0]
          rw [hw, if_pos (by omega), if_neg (by omega), hm, if_pos (by omega)]
        · simp only [Bool.false_eq_true, false_iff]
          intro hp
          exact hp.2 d hd h1 (Nat.dvd_of_mod_eq_zero h2)
      · obtain ⟨b, hb, hiff⟩ := ih (d + 1) (by omega) (by omega) (by
          intro e he1 he2
          by_cases h3 : e = d
          · subst h3
            intro hdv
            exact h2 (Nat.mod_eq_zero_of_dvd hdv)
          · exact hno e he1 (by omega))
        refine ⟨b, Ev.step (fun k => ?_) hb, hiff⟩
        simp only [spec_l4Prime.l0]
        have hw2 : wrap64 ((d : Int) + 1) = ((d + 1 : Nat) : Int) := by unfold wrap64; omega
        rw [hw, if_pos (by omega), if_neg (by omega), hm, if_neg (by omega), hw2]
    · refine ⟨decide (n > 1), Ev.step (f := fun _ => some (decide (n > 1))) (fun k => ?_) (Ev.now _), ?_⟩
      · simp only [spec_l4Prime.l0]
        rw [hw, if_neg (by omega)]
        congr 1
        simp
        omega
      · rw [decide_eq_true_eq]
        refine ⟨fun h => ⟨h, fun e h2 h3 => ?_⟩, fun h => h.1⟩
        refine hno e h2 ?_
        apply Nat.lt_of_not_le
        intro hge
        have := Nat.mul_le_mul hge hge
        omega

theorem prime_ev (n : Nat) (hn : n ≤ 10007) : ∃ b, Ev (fun k => spec_l4Prime.f k (n : Int)) b ∧ Ev (fun k => impl_isPrime.f k (n : Int)) b ∧ (b = true ↔ NT.Pr n) := by
  obtain ⟨b, hb, hiff⟩ := prime_loop n hn 100 2 (by omega) (by omega) (fun e h1 h2 => by omega)
  refine ⟨b, hb, Ev.congr (fun k => ?_) hb, hiff⟩
  unfold impl_isPrime.f
  rw [prime_same]
  rfl


theorem both_ev (n : Int) : ∃ r, Ev (fun k => spec_IsPrime.f k n) r ∧ Ev (fun k => impl_IsPrime.f k n) r := by
  unfold spec_IsPrime.f impl_IsPrime.f spec_l1In.f impl_within.f
  by_cases h1 : n ≥ 0
  · by_cases h2 : n ≤ 10007
    · obtain ⟨m, rfl⟩ : ∃ m : Nat, n = (m : Int) := ⟨n.toNat, by omega⟩
      obtain ⟨b, hs, hi, _⟩ := prime_ev m (by omega)
      simp only [h1, h2, if_true, decide_true, Option.bind_some]
      exact ⟨(b, true), Ev.bind hs (Ev.now _), Ev.bind hi (Ev.now _)⟩
    · simp only [h1, h2, if_true, decide_false, Option.bind_some, Bool.false_eq_true, if_false]
      exact ⟨_, Ev.now _, Ev.now _⟩
  · simp only [h1, if_false, Option.bind_some, Bool.false_eq_true]
    exact ⟨_, Ev.now _, Ev.now _⟩

theorem FnExactIsPrime : laws_FnExactIsPrime.Pure := by
  intro a0 _
  obtain ⟨r, hs, hi⟩ := both_ev a0
  refine Ev.rounds (Ev.congr (fun k => by unfold laws_FnExactIsPrime.f; rfl) (Ev.bind hs (Ev.bind hi ?_)))
  simp only [if_false, bne_self_eq_false, Bool.false_eq_true]
  exact Ev.now _

end Go.Proofs.Ytmbfcnledgeddaa.Pure
