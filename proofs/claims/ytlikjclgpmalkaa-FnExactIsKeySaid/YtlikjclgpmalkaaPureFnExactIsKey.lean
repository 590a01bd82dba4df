/- The law FnExactIsKey answers true for every number. No condition. -/
import Derived.Test.YtlikjclgpmalkaaPFnExactIsKeyx1
namespace Go.Proofs.Ytlikjclgpmalkaa.Pure
open Go.RowKit Go.Proofs.Ytlikjclgpmalkaa.PFnExactIsKey Go.Proofs.YtlikjclgpmalkaaW.PrintWords Go.Proofs.YtlikjclgpmalkaaW.PrintLast Go.Proofs.YtlikjclgpmalkaaW.PrintMore

theorem power_same : ∀ (k : Nat) (x y z t : Int), impl_powerMod.l0 k x y z t = spec_l4Power.l0 k x y z t := by
  intro k
  induction k with
  | zero => intro x y z t; rfl
  | succ k ih => intro x y z t; simp only [impl_powerMod.l0, spec_l4Power.l0, ih]

theorem wrap_mul {x y p : Nat} (hx : x < p) (hy : y < p) (hp : p ≤ 10007) : Int.tmod (wrap64 ((x : Int) * (y : Int))) (p : Int) = ((x * y % p : Nat) : Int) := by
  have h1 : x * y ≤ 10007 * 10007 := Nat.mul_le_mul (by omega) (by omega)
  have h2 : ((x * y : Nat) : Int) = (x : Int) * (y : Int) := by simp
  have h3 : wrap64 ((x : Int) * (y : Int)) = ((x * y : Nat) : Int) := by rw [← h2]; unfold wrap64; omega
  rw [h3, Int.tmod_eq_emod_of_nonneg (by omega)]
  simp

theorem power_loop (p : Nat) (hp2 : 2 ≤ p) (hp : p ≤ 10007) : ∀ (e : Nat), e ≤ 1000000000 → ∀ (a n : Nat), a < p → n < p →
    Ev (fun k => spec_l4Power.l0 k (a : Int) (e : Int) (p : Int) (n : Int)) ((n * a ^ e % p : Nat) : Int) := by
  intro e
  induction e using Nat.strongRecOn with
  | _ e ih =>
    intro he a n ha hn
    by_cases h0 : e = 0
    · subst h0
      refine Ev.step (f := fun _ => some _) (fun k => ?_) (Ev.now _)
      simp only [spec_l4Power.l0]
      rw [if_neg (by omega), Nat.pow_zero, Nat.mul_one, Nat.mod_eq_of_lt hn]
    · have hdiv : wrap64 (Int.tdiv (e : Int) 2) = ((e / 2 : Nat) : Int) := by
        rw [Int.tdiv_eq_ediv_of_nonneg (by omega)]
        unfold wrap64
        omega
      have hmod : Int.tmod (e : Int) 2 = ((e % 2 : Nat) : Int) := by
        rw [Int.tmod_eq_emod_of_nonneg (by omega)]
        simp
      have hlt : ∀ x : Nat, x % p < p := fun x => Nat.mod_lt _ (by omega)
      have hee := Nat.div_add_mod e 2
      by_cases h1 : e % 2 = 1
      · have h2 := ih (e / 2) (by omega) (by omega) (a * a % p) (n * a % p) (hlt _) (hlt _)
        have e1 : n * a % p * (a * a % p) ^ (e / 2) % p = n * a ^ e % p := by
          rw [Nat.mul_mod, Nat.pow_mod, Nat.mod_mod, Nat.mod_mod, ← Nat.pow_mod, ← Nat.mul_mod, ← Nat.pow_two, ← Nat.pow_mul, Nat.mul_assoc, ← Nat.pow_succ']
          have : (2 * (e / 2)).succ = e := by omega
          rw [this]
        rw [e1] at h2
        refine Ev.step (fun k => ?_) h2
        simp only [spec_l4Power.l0]
        rw [if_pos (by omega), hmod, if_pos (by omega), if_neg (by omega), wrap_mul ha ha hp, wrap_mul hn ha hp, hdiv]
      · have h2 := ih (e / 2) (by omega) (by omega) (a * a % p) n (hlt _) hn
        have e1 : n * (a * a % p) ^ (e / 2) % p = n * a ^ e % p := by
          rw [Nat.mul_mod, Nat.pow_mod, Nat.mod_mod, ← Nat.pow_mod, ← Nat.mul_mod, ← Nat.pow_two, ← Nat.pow_mul]
          have : 2 * (e / 2) = e := by omega
          rw [this]
        rw [e1] at h2
        refine Ev.step (fun k => ?_) h2
        simp only [spec_l4Power.l0]
        rw [if_pos (by omega), hmod, if_neg (by omega), if_neg (by omega), wrap_mul ha ha hp, hdiv]

theorem power_ev (a e p : Nat) (hp2 : 2 ≤ p) (hp : p ≤ 10007) (he : e ≤ 1000000000) (ha : a < p) :
    Ev (fun k => spec_l4Power.f k (a : Int) (e : Int) (p : Int)) ((a ^ e % p : Nat) : Int) ∧ Ev (fun k => impl_powerMod.f k (a : Int) (e : Int) (p : Int)) ((a ^ e % p : Nat) : Int) := by
  have h := power_loop p hp2 hp e he a 1 ha (by omega)
  rw [Nat.one_mul] at h
  refine ⟨h, Ev.congr (fun k => ?_) h⟩
  unfold impl_powerMod.f
  rw [power_same]
  rfl


theorem both_ev (a : Int) : ∃ r, Ev (fun k => spec_IsKey.f k a) r ∧ Ev (fun k => impl_IsKey.f k a) r := by
  unfold spec_IsKey.f impl_IsKey.f impl_isKey.f spec_l1In.f impl_within.f
  by_cases h1 : a ≥ 2
  · by_cases h2 : a ≤ 2026
    · obtain ⟨x, rfl⟩ : ∃ m : Nat, a = (m : Int) := ⟨a.toNat, by omega⟩
      obtain ⟨hs, hi⟩ := power_ev x 1013 2027 (by omega) (by omega) (by omega) (by omega)
      simp only [h1, h2, if_true, decide_true, Option.bind_some]
      exact ⟨_, Ev.bind hs (Ev.now _), Ev.bind (Ev.bind hi (Ev.now _)) (Ev.now _)⟩
    · simp only [h1, h2, if_true, decide_false, Option.bind_some, Bool.false_eq_true, if_false]
      exact ⟨_, Ev.now _, Ev.now _⟩
  · simp only [h1, if_false, Option.bind_some, Bool.false_eq_true]
    exact ⟨_, Ev.now _, Ev.now _⟩

theorem FnExactIsKey : laws_FnExactIsKey.Pure := by
  intro a0 _
  obtain ⟨r, hs, hi⟩ := both_ev a0
  refine Ev.rounds (Ev.congr (fun k => by unfold laws_FnExactIsKey.f; rfl) (Ev.bind hs (Ev.bind hi ?_)))
  simp only [if_false, bne_self_eq_false, Bool.false_eq_true]
  exact Ev.now _

end Go.Proofs.Ytlikjclgpmalkaa.Pure
