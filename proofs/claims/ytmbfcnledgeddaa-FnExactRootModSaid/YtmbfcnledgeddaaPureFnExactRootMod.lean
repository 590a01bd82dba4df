/- The law FnExactRootMod answers true for all numbers. No condition. -/
import Derived.Test.YtmbfcnledgeddaaPFnExactRootModx2
import Derived.Test.YtmbfcnledgeddaaNT
namespace Go.Proofs.Ytmbfcnledgeddaa.Pure
open Go.RowKit Go.Proofs.Ytmbfcnledgeddaa.PFnExactRootMod Go.Proofs.YtmbfcnledgeddaaW.PrintWords Go.Proofs.YtmbfcnledgeddaaW.PrintLast Go.Proofs.YtmbfcnledgeddaaW.PrintMore
open Go.Proofs.Ytmbfcnledgeddaa

theorem prime_same : ∀ (k : Nat) (x y : Int), impl_isPrime.l0 k x y = spec_l4Prime.l0 k x y := by
  intro k
  induction k with
  | zero => intro x y; rfl
  | succ k ih => intro x y; simp only [impl_isPrime.l0, spec_l4Prime.l0, ih]

theorem prime_loop (n : Nat) (hn : n ≤ 10007) : ∀ (t d : Nat), 2 ≤ d → d + t = 102 → (∀ e, 2 ≤ e → e < d → ¬ e ∣ n) →
    ∃ b, Ev (fun k => spec_l4Prime.l0 k (n : Int) (d : Int)) b ∧ (b = true ↔ NT.Pr n) := by
  intro t
  induction t with
  | zero =>
    intro d hd ht hno
    obtain rfl : d = 102 := by omega
    refine ⟨decide (n > 1), Ev.step (f := fun _ => some (decide (n > 1))) (fun k => ?_) (Ev.now _), ?_⟩
    · simp only [spec_l4Prime.l0]
      have hw : wrap64 (((102 : Nat) : Int) * ((102 : Nat) : Int)) = 10404 := by unfold wrap64; omega
      rw [hw, if_neg (by omega)]
      congr 1
      simp
      omega
    · rw [decide_eq_true_eq]
      refine ⟨fun h => ⟨h, fun e h2 h3 => ?_⟩, fun h => h.1⟩
      refine hno e h2 ?_
      apply Nat.lt_of_not_le
      intro hge
      have := Nat.mul_le_mul hge hge
      omega
  | succ t ih =>
    intro d hd ht hno
    have hw : wrap64 ((d : Int) * (d : Int)) = ((d * d : Nat) : Int) := by
      have h1 : d * d ≤ 102 * 102 := Nat.mul_le_mul (by omega) (by omega)
      have h2 : ((d * d : Nat) : Int) = (d : Int) * (d : Int) := by simp
      rw [← h2]
      unfold wrap64
      omega
    by_cases h1 : d * d ≤ n
    · have hm : Int.tmod (n : Int) (d : Int) = ((n % d : Nat) : Int) := by rw [Int.tmod_eq_emod_of_nonneg (by omega)]; simp
      by_cases h2 : n % d = 0
      · refine ⟨false, Ev.step (f := fun _ => some false) (fun k => ?_) (Ev.now _), ?_⟩
        · simp only [spec_l4Prime.l0]
          rw [hw, if_pos (by omega), if_neg (by omega), hm, if_pos (by omega)]
        · simp only [Bool.false_eq_true, false_iff]
          intro hp
          exact hp.2 d hd h1 (Nat.dvd_of_mod_eq_zero h2)
      · obtain ⟨b, hb, hiff⟩ := ih (d + 1) (by omega) (by omega) (by
          intro e he1 he2
          by_cases h3 : e = d
          · subst h3
            intro hdv
            exact h2 (Nat.mod_eq_zero_of_dvd hdv)
          · exact hno e he1 (by omega))
        refine ⟨b, Ev.step (fun k => ?_) hb, hiff⟩
        simp only [spec_l4Prime.l0]
        have hw2 : wrap64 ((d : Int) + 1) = ((d + 1 : Nat) : Int) := by unfold wrap64; omega
        rw [hw, if_pos (by omega), if_neg (by omega), hm, if_neg (by omega), hw2]
    · refine ⟨decide (n > 1), Ev.step (f := fun _ => some (decide (n > 1))) (fun k => ?_) (Ev.now _), ?_⟩
      · simp only [spec_l4Prime.l0]
        rw [hw, if_neg (by omega)]
        congr 1
        simp
        omega
      · rw [decide_eq_true_eq]
        refine ⟨fun h => ⟨h, fun e h2 h3 => ?_⟩, fun h => h.1⟩
        refine hno e h2 ?_
        apply Nat.lt_of_not_le
        intro hge
        have := Nat.mul_le_mul hge hge
        omega

theorem prime_ev (n : Nat) (hn : n ≤ 10007) : ∃ b, Ev (fun k => spec_l4Prime.f k (n : Int)) b ∧ Ev (fun k => impl_isPrime.f k (n : Int)) b ∧ (b = true ↔ NT.Pr n) := by
  obtain ⟨b, hb, hiff⟩ := prime_loop n hn 100 2 (by omega) (by omega) (fun e h1 h2 => by omega)
  refine ⟨b, hb, Ev.congr (fun k => ?_) hb, hiff⟩
  unfold impl_isPrime.f
  rw [prime_same]
  rfl


theorem wrap_mul {x y p : Nat} (hx : x < p) (hy : y < p) (hp : p ≤ 10007) : Int.tmod (wrap64 ((x : Int) * (y : Int))) (p : Int) = ((x * y % p : Nat) : Int) := by
  have h1 : x * y ≤ 10007 * 10007 := Nat.mul_le_mul (by omega) (by omega)
  have h2 : ((x * y : Nat) : Int) = (x : Int) * (y : Int) := by simp
  have h3 : wrap64 ((x : Int) * (y : Int)) = ((x * y : Nat) : Int) := by rw [← h2]; unfold wrap64; omega
  rw [h3, Int.tmod_eq_emod_of_nonneg (by omega)]
  simp

theorem power_loop (p : Nat) (hp2 : 2 ≤ p) (hp : p ≤ 10007) : ∀ (e : Nat), e ≤ 1000000000 → ∀ (a n : Nat), a < p → n < p →
    Ev (fun k => spec_l4Power.l0 k (a : Int) (e : Int) (p : Int) (n : Int)) ((n * a ^ e % p : Nat) : Int) := by
  intro e
  induction e using Nat.strongRecOn with
  | _ e ih =>
    intro he a n ha hn
    by_cases h0 : e = 0
    · subst h0
      refine Ev.step (f := fun _ => some _) (fun k => ?_) (Ev.now _)
      simp only [spec_l4Power.l0]
      rw [if_neg (by omega), Nat.pow_zero, Nat.mul_one, Nat.mod_eq_of_lt hn]
    · have hdiv : wrap64 (Int.tdiv (e : Int) 2) = ((e / 2 : Nat) : Int) := by
        rw [Int.tdiv_eq_ediv_of_nonneg (by omega)]
        unfold wrap64
        omega
      have hmod : Int.tmod (e : Int) 2 = ((e % 2 : Nat) : Int) := by
        rw [Int.tmod_eq_emod_of_nonneg (by omega)]
        simp
      have hlt : ∀ x : Nat, x % p < p := fun x => Nat.mod_lt _ (by omega)
      have hee := Nat.div_add_mod e 2
      by_cases h1 : e % 2 = 1
      · have h2 := ih (e / 2) (by omega) (by omega) (a * a % p) (n * a % p) (hlt _) (hlt _)
        have e1 : n * a % p * (a * a % p) ^ (e / 2) % p = n * a ^ e % p := by
          rw [Nat.mul_mod, Nat.pow_mod, Nat.mod_mod, Nat.mod_mod, ← Nat.pow_mod, ← Nat.mul_mod, ← Nat.pow_two, ← Nat.pow_mul, Nat.mul_assoc, ← Nat.pow_succ']
          have : (2 * (e / 2)).succ = e := by omega
          rw [this]
        rw [e1] at h2
        refine Ev.step (fun k => ?_) h2
        simp only [spec_l4Power.l0]
        rw [if_pos (by omega), hmod, if_pos (by omega), if_neg (by omega), wrap_mul ha ha hp, wrap_mul hn ha hp, hdiv]
      · have h2 := ih (e / 2) (by omega) (by omega) (a * a % p) n (hlt _) hn
        have e1 : n * (a * a % p) ^ (e / 2) % p = n * a ^ e % p := by
          rw [Nat.mul_mod, Nat.pow_mod, Nat.mod_mod, ← Nat.pow_mod, ← Nat.mul_mod, ← Nat.pow_two, ← Nat.pow_mul]
          have : 2 * (e / 2) = e := by omega
          rw [this]
        rw [e1] at h2
        refine Ev.step (fun k => ?_) h2
        simp only [spec_l4Power.l0]
        rw [if_pos (by omega), hmod, if_neg (by omega), if_neg (by omega), wrap_mul ha ha hp, hdiv]

theorem powerS_ev (a e p : Nat) (hp2 : 2 ≤ p) (hp : p ≤ 10007) (he : e ≤ 1000000000) (ha : a < p) :
    Ev (fun k => spec_l4Power.f k (a : Int) (e : Int) (p : Int)) ((a ^ e % p : Nat) : Int) := by
  have h := power_loop p hp2 hp e he a 1 ha (by omega)
  rw [Nat.one_mul] at h
  exact h


def Md (p : Int) : Prop := 3 ≤ p ∧ p ≤ 10007 ∧ NT.Pr p.toNat

theorem modulus_ev (p : Int) : (Md p → Ev (fun k => impl_isModulus.f k p) true) ∧ (¬ Md p → Ev (fun k => impl_isModulus.f k p) false) := by
  unfold impl_isModulus.f impl_within.f
  by_cases h1 : p ≥ 3
  · by_cases h2 : p ≤ 10007
    · obtain ⟨n, rfl⟩ : ∃ n : Nat, p = (n : Int) := ⟨p.toNat, by omega⟩
      obtain ⟨b, _, hb, hiff⟩ := prime_ev n (by omega)
      simp only [h1, h2, if_true, decide_true, Option.bind_some]
      have hb' : Ev (fun k => (impl_isPrime.f k (n : Int)).bind fun t => some t) b := Ev.bind hb (Ev.now _)
      constructor
      · intro h
        have : b = true := hiff.mpr (by simpa using h.2.2)
        subst this
        exact hb'
      · intro h
        have : b = false := by
          cases b
          · rfl
          · exact absurd ⟨by omega, by omega, by simpa using hiff.mp rfl⟩ h
        subst this
        exact hb'
    · refine ⟨fun h => absurd h.2.1 h2, fun _ => ?_⟩
      simp only [h1, h2, if_true, decide_false, Option.bind_some, Bool.false_eq_true, if_false]
      exact Ev.now _
  · refine ⟨fun h => absurd h.1 h1, fun _ => ?_⟩
    simp only [h1, if_false, Option.bind_some, Bool.false_eq_true]
    exact Ev.now _

theorem of_ev (a p : Int) : (Md p ∧ 0 ≤ a ∧ a < p → Ev (fun k => spec_l4Of.f k a p) true) ∧ (¬ (Md p ∧ 0 ≤ a ∧ a < p) → Ev (fun k => spec_l4Of.f k a p) false) := by
  unfold spec_l4Of.f spec_l1In.f
  by_cases h1 : p ≥ 3
  · by_cases h2 : p ≤ 10007
    · have hw : wrap64 (p - 1) = p - 1 := by unfold wrap64; omega
      obtain ⟨n, rfl⟩ : ∃ n : Nat, p = (n : Int) := ⟨p.toNat, by omega⟩
      obtain ⟨b, hb, _, hiff⟩ := prime_ev n (by omega)
      simp only [h1, h2, if_true, decide_true, Option.bind_some, hw]
      by_cases h3 : a ≥ 0
      · by_cases h4 : a ≤ (n : Int) - 1
        · simp only [h3, h4, if_true, decide_true, Option.bind_some]
          have hb' : Ev (fun k => (spec_l4Prime.f k (n : Int)).bind fun t => some t) b := Ev.bind hb (Ev.now _)
          constructor
          · intro h
            have : b = true := hiff.mpr (by simpa using h.1.2.2)
            subst this
            exact hb'
          · intro h
            have : b = false := by
              cases b
              · rfl
              · exact (h ⟨⟨h1, h2, by simpa using hiff.mp rfl⟩, trivial, by omega⟩).elim
            subst this
            exact hb'
        · refine ⟨fun h => absurd h.2.2 (by omega), fun _ => ?_⟩
          simp only [h3, h4, if_true, decide_false, Option.bind_some, Bool.false_eq_true, if_false]
          exact Ev.now _
      · refine ⟨fun h => absurd h.2.1 h3, fun _ => ?_⟩
        simp only [h3, if_false, Option.bind_some, Bool.false_eq_true]
        exact Ev.now _
    · refine ⟨fun h => absurd h.1.2.1 h2, fun _ => ?_⟩
      simp only [h1, h2, if_true, decide_false, Option.bind_some, Bool.false_eq_true, if_false]
      exact Ev.now _
  · refine ⟨fun h => absurd h.1.1 h1, fun _ => ?_⟩
    simp only [h1, if_false, Option.bind_some, Bool.false_eq_true]
    exact Ev.now _

theorem within_ev (a lo hi : Int) : impl_within.f a lo hi = some (decide (lo ≤ a ∧ a ≤ hi)) := by
  unfold impl_within.f
  by_cases h : a ≥ lo
  · rw [if_pos h]; congr 1; simp; omega
  · rw [if_neg h]; congr 1; simp; omega
theorem in_ev (a lo hi : Int) : spec_l1In.f a lo hi = some (decide (lo ≤ a ∧ a ≤ hi)) := by
  unfold spec_l1In.f
  by_cases h : a ≥ lo
  · rw [if_pos h]; congr 1; simp; omega
  · rw [if_neg h]; congr 1; simp; omega

theorem bTrue {α : Type} {g : Nat → Option Bool} {f : Nat → Option α} {z : α} {r : α} (hg : Ev g true) (hf : Ev f r) : Ev (fun k => (g k).bind fun t => if t = true then f k else some z) r :=
  Ev.bind hg (f := fun k t => if t = true then f k else some z) (by simpa using hf)
theorem bFalse {α : Type} {g : Nat → Option Bool} {f : Nat → Option α} {z : α} (hg : Ev g false) : Ev (fun k => (g k).bind fun t => if t = true then f k else some z) z :=
  Ev.bind hg (f := fun k t => if t = true then f k else some z) (by simpa using Ev.now z)


/-- the reference's kind of a number: 0, 1 or -1 -/
theorem kindS_ev (a p : Nat) (hp : NT.Pr p) (h3 : 3 ≤ p) (h4 : p ≤ 10007) (ha : a < p) :
    ∃ r : Int, Ev (fun k => spec_l4Kind.f k (a : Int) (p : Int)) r ∧ (r = 0 ∨ r = 1 ∨ r = -1) ∧ (r = -1 ↔ a ≠ 0 ∧ a ^ ((p - 1) / 2) % p ≠ 1) := by
  have hs := powerS_ev a ((p - 1) / 2) p (by omega) h4 (by omega) ha
  have hw : wrap64 (Int.tdiv (wrap64 ((p : Int) - 1)) 2) = (((p - 1) / 2 : Nat) : Int) := by
    have h1 : wrap64 ((p : Int) - 1) = (p : Int) - 1 := by unfold wrap64; omega
    rw [h1, Int.tdiv_eq_ediv_of_nonneg (by omega)]
    unfold wrap64
    omega
  unfold spec_l4Kind.f
  rw [hw]
  by_cases h0 : a = 0
  · subst h0
    have e0 : 0 ^ ((p - 1) / 2) % p = 0 := by rw [Nat.zero_pow (by omega)]; exact Nat.zero_mod p
    rw [e0] at hs
    refine ⟨0, Ev.bind hs ?_, by omega, by simp⟩
    simp only [Int.natCast_zero, if_true]
    exact Ev.now _
  · have ha' : ¬ p ∣ a := fun hd => by have := Nat.le_of_dvd (by omega) hd; omega
    have hne : a ^ ((p - 1) / 2) % p ≠ 0 := fun h => hp.not_dvd_pow ha' _ (Nat.dvd_of_mod_eq_zero h)
    by_cases h1 : a ^ ((p - 1) / 2) % p = 1
    · rw [h1] at hs
      refine ⟨1, Ev.bind hs ?_, by omega, by simp [h1]⟩
      simp only [Int.natCast_one, Int.one_ne_zero, if_true, if_false]
      exact Ev.now _
    · refine ⟨-1, Ev.bind hs ?_, by omega, by simp [h1, h0]⟩
      rw [if_neg (by omega), if_neg (by omega)]
      exact Ev.now _


theorem root_loop (a p : Nat) (hp3 : 3 ≤ p) (hp : p ≤ 10007) : ∀ (t n : Nat), n + t = p → (∃ m, n ≤ m ∧ m < p ∧ m * m % p = a ∧ Ev (fun k => spec_l4Root.l0 k (a : Int) (p : Int) (n : Int)) (m : Int) ∧ Ev (fun k => impl_RootMod.l0 k (a : Int) (p : Int) (p : Int) (n : Int)) ((m : Int), true))
    ∨ ((∀ m, n ≤ m → m < p → m * m % p ≠ a) ∧ Ev (fun k => spec_l4Root.l0 k (a : Int) (p : Int) (n : Int)) (-1) ∧ Ev (fun k => impl_RootMod.l0 k (a : Int) (p : Int) (p : Int) (n : Int)) (0, false)) := by
  intro t
  induction t with
  | zero =>
    intro n hn
    right
    refine ⟨fun m h1 h2 => by omega, Ev.step (f := fun _ => some _) (fun k => ?_) (Ev.now _), Ev.step (f := fun _ => some _) (fun k => ?_) (Ev.now _)⟩
    · simp only [spec_l4Root.l0]; rw [if_neg (by omega)]
    · simp only [impl_RootMod.l0]; rw [if_neg (by omega)]
  | succ t ih =>
    intro n hn
    have hm := wrap_mul (show n < p by omega) (show n < p by omega) hp
    have hw : wrap64 ((n : Int) + 1) = ((n + 1 : Nat) : Int) := by unfold wrap64; omega
    by_cases he : n * n % p = a
    · left
      refine ⟨n, by omega, by omega, he, Ev.step (f := fun _ => some _) (fun k => ?_) (Ev.now _), Ev.step (f := fun _ => some _) (fun k => ?_) (Ev.now _)⟩
      · simp only [spec_l4Root.l0]; rw [if_pos (by omega), if_neg (by omega), hm, if_pos (by omega)]
      · simp only [impl_RootMod.l0]; rw [if_pos (by omega), if_neg (by omega), hm, if_pos (by omega)]
    · rcases ih (n + 1) (by omega) with ⟨m, h1, h2, h3, h4, h5⟩ | ⟨h1, h2, h3⟩
      · left
        refine ⟨m, by omega, h2, h3, Ev.step (fun k => ?_) h4, Ev.step (fun k => ?_) h5⟩
        · simp only [spec_l4Root.l0]; rw [if_pos (by omega), if_neg (by omega), hm, if_neg (by omega), hw]
        · simp only [impl_RootMod.l0]; rw [if_pos (by omega), if_neg (by omega), hm, if_neg (by omega), hw]
      · right
        refine ⟨fun m h4 h5 => ?_, Ev.step (fun k => ?_) h2, Ev.step (fun k => ?_) h3⟩
        · by_cases h6 : m = n
          · subst h6; exact he
          · exact h1 m (by omega) h5
        · simp only [spec_l4Root.l0]; rw [if_pos (by omega), if_neg (by omega), hm, if_neg (by omega), hw]
        · simp only [impl_RootMod.l0]; rw [if_pos (by omega), if_neg (by omega), hm, if_neg (by omega), hw]

theorem root_ev (a p : Nat) (hp : NT.Pr p) (h3 : 3 ≤ p) (h4 : p ≤ 10007) (ha : a < p) :
    ∃ r : Int, Ev (fun k => spec_l4Root.f k (a : Int) (p : Int)) r ∧ ((r < 0 ∧ Ev (fun k => impl_RootMod.l0 k (a : Int) (p : Int) (p : Int) 0) (0, false)) ∨ (0 ≤ r ∧ Ev (fun k => impl_RootMod.l0 k (a : Int) (p : Int) (p : Int) 0) (r, true))) := by
  obtain ⟨kd, hk, hk1, hk2⟩ := kindS_ev a p hp h3 h4 ha
  have hodd : p % 2 = 1 := by
    rcases Nat.mod_two_eq_zero_or_one p with h | h
    · rcases hp.no_div (Nat.dvd_of_mod_eq_zero h) with h1 | h1 <;> omega
    · exact h
  unfold spec_l4Root.f
  rcases root_loop a p h3 h4 p 0 (by omega) with ⟨m, h5, h6, h7, h8, h9⟩ | ⟨h5, h6, h7⟩
  · have hne : ¬ kd < 0 := by
      intro hlt
      have : kd = -1 := by omega
      obtain ⟨ha0, hpow⟩ := hk2.mp this
      apply hpow
      apply hp.euler hodd (n := m)
      · rw [h7, Nat.mod_eq_of_lt ha]
      · intro hd
        have := Nat.le_of_dvd (by omega) hd
        omega
    refine ⟨(m : Int), Ev.bind hk ?_, Or.inr ⟨by omega, h9⟩⟩
    simp only [if_neg hne]
    exact h8
  · by_cases hlt : kd < 0
    · refine ⟨-1, Ev.bind hk ?_, Or.inl ⟨by omega, h7⟩⟩
      simp only [if_pos hlt]
      exact Ev.now _
    · refine ⟨-1, Ev.bind hk ?_, Or.inl ⟨by omega, h7⟩⟩
      simp only [if_neg hlt]
      exact h6

theorem both_ev (a p : Int) : ∃ r, Ev (fun k => spec_RootMod.f k a p) r ∧ Ev (fun k => impl_RootMod.f k a p) r := by
  unfold spec_RootMod.f impl_RootMod.f
  simp only [within_ev, Option.bind_some]
  by_cases h1 : Md p
  · have hw : wrap64 (p - 1) = p - 1 := by have := h1.1; have := h1.2.1; unfold wrap64; omega
    rw [hw]
    by_cases h2 : 0 ≤ a ∧ a < p
    · have h4 := h1.1
      have h5 := h1.2.1
      obtain ⟨x, rfl⟩ : ∃ m : Nat, a = (m : Int) := ⟨a.toNat, by omega⟩
      obtain ⟨z, rfl⟩ : ∃ m : Nat, p = (m : Int) := ⟨p.toNat, by omega⟩
      have h6 : (0 : Int) ≤ (x : Int) ∧ (x : Int) ≤ (z : Int) - 1 := by omega
      obtain ⟨r, hs, hr⟩ := root_ev x z (by simpa using h1.2.2) (by omega) (by omega) (by omega)
      rcases hr with ⟨h7, h8⟩ | ⟨h7, h8⟩
      · refine ⟨(0, false), bTrue ((of_ev _ _).1 ⟨h1, h2⟩) (Ev.bind hs ?_), Ev.bind ((modulus_ev _).1 h1) ?_⟩
        · simp only [if_pos h7]
          exact Ev.now _
        · simp only [if_true, h6, and_self, decide_true, Bool.not_true]
          exact Ev.step (fun k => by rw [impl_RootMod.j0, if_neg (by simp)]) h8
      · refine ⟨(r, true), bTrue ((of_ev _ _).1 ⟨h1, h2⟩) (Ev.bind hs ?_), Ev.bind ((modulus_ev _).1 h1) ?_⟩
        · simp only [if_neg (show ¬ r < 0 by omega)]
          exact Ev.now _
        · simp only [if_true, h6, and_self, decide_true, Bool.not_true]
          exact Ev.step (fun k => by rw [impl_RootMod.j0, if_neg (by simp)]) h8
    · refine ⟨(0, false), bFalse ((of_ev _ _).2 (fun h => h2 h.2)), Ev.bind ((modulus_ev _).1 h1) ?_⟩
      have h6 : ¬ ((0 : Int) ≤ a ∧ a ≤ p - 1) := by omega
      simp only [if_true, h6, decide_false, Bool.not_false]
      exact Ev.step (f := fun _ => some _) (fun k => by rw [impl_RootMod.j0, if_pos rfl]) (Ev.now _)
  · refine ⟨(0, false), bFalse ((of_ev _ _).2 (fun h => h1 h.1)), Ev.bind ((modulus_ev _).2 h1) ?_⟩
    simp only [Bool.false_eq_true, if_false]
    exact Ev.step (f := fun _ => some _) (fun k => by rw [impl_RootMod.j0, if_pos rfl]) (Ev.now _)

theorem FnExactRootMod : laws_FnExactRootMod.Pure := by
  intro a0 a1 _ _
  obtain ⟨r, hs, hi⟩ := both_ev a0 a1
  refine Ev.rounds (Ev.congr (fun k => by unfold laws_FnExactRootMod.f; rfl) (Ev.bind hs (Ev.bind hi ?_)))
  simp only [if_true, if_false, bne_self_eq_false, Bool.false_eq_true]
  exact Ev.now _

end Go.Proofs.Ytmbfcnledgeddaa.Pure
