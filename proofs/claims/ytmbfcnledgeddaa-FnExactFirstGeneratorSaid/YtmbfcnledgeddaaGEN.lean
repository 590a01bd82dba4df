/- Orders and generators modulo a prime, over the naturals. No program in sight. -/
import Derived.Test.YtmbfcnledgeddaaNT
namespace Go.Proofs.Ytmbfcnledgeddaa.NT

theorem pow_mod_add {a p m n : Nat} (hm : a ^ m % p = 1) : a ^ (m + n) % p = a ^ n % p := by
  rw [Nat.pow_add, Nat.mul_mod, hm, Nat.one_mul, Nat.mod_mod]

theorem pow_mod_mul {a p m : Nat} (h1 : 1 < p) (hm : a ^ m % p = 1) : ∀ n, a ^ (m * n) % p = 1 := by
  intro n
  induction n with
  | zero => simp; exact Nat.mod_eq_of_lt h1
  | succ n ih => rw [Nat.mul_succ, Nat.add_comm, pow_mod_add hm, ih]

/-- the least power that is 1, if there is one -/
theorem least {P : Nat → Prop} (h : ∃ k, P k) : ∃ k, P k ∧ ∀ j, j < k → ¬ P j := by
  obtain ⟨k, hk⟩ := h
  induction k using Nat.strongRecOn with
  | _ k ih =>
    by_cases hj : ∃ j, j < k ∧ P j
    · obtain ⟨j, hjk, hpj⟩ := hj
      exact ih j hjk hpj
    · exact ⟨k, hk, fun j hj' hpj => hj ⟨j, hj', hpj⟩⟩

theorem Pr.order {p a : Nat} (h : Pr p) (ha : ¬ p ∣ a) : ∃ k, 0 < k ∧ k ≤ p - 1 ∧ a ^ k % p = 1 ∧ (∀ j, 0 < j → j < k → a ^ j % p ≠ 1) ∧ k ∣ p - 1 := by
  have hp := h.1
  have hf := h.fermat ha
  obtain ⟨k, ⟨hk0, hk⟩, hl⟩ := least (P := fun k => 0 < k ∧ a ^ k % p = 1) ⟨p - 1, by omega, hf⟩
  have hle : k ≤ p - 1 := by
    rcases Nat.lt_or_ge (p - 1) k with h1 | h1
    · exact absurd ⟨by omega, hf⟩ (hl (p - 1) h1)
    · exact h1
  refine ⟨k, hk0, hle, hk, fun j hj0 hj he => hl j hj ⟨hj0, he⟩, ?_⟩
  apply Nat.dvd_of_mod_eq_zero
  apply Classical.byContradiction
  intro hr
  apply hl ((p - 1) % k) (Nat.mod_lt _ hk0)
  refine ⟨Nat.pos_of_ne_zero hr, ?_⟩
  have h2 := pow_mod_add (n := (p - 1) % k) (pow_mod_mul hp hk ((p - 1) / k))
  rw [Nat.div_add_mod, hf] at h2
  exact h2.symm

/-- no divisor of n from d on up to the root (fuel: the number of tries) -/
def noDiv : Nat → Nat → Nat → Bool
  | 0, _, _ => false
  | f + 1, d, n => bif Nat.ble (d * d) n then (bif Nat.beq (n % d) 0 then false else noDiv f (d + 1) n) else true

/-- for each pair q, n / q of divisors of n from q on: g to neither is 1 modulo p -/
def good : Nat → Nat → Nat → Nat → Nat → Bool
  | 0, _, _, _, _ => false
  | f + 1, q, n, g, p => bif Nat.ble (q * q) n then (bif Nat.beq (n % q) 0 then (bif Nat.beq (g ^ q % p) 1 then false else bif Nat.beq (g ^ (n / q) % p) 1 then false else good f (q + 1) n g p) else good f (q + 1) n g p) else true

def search : Nat → Nat → Nat → Bool
  | 0, _, _ => false
  | f + 1, g, p => bif Nat.ble (g % p) 1 then false else bif good 101 2 (p - 1) g p then true else search f (g + 1) p

def allGood : Nat → Nat → Bool
  | 0, _ => true
  | f + 1, p => bif noDiv 101 2 p then (bif search 60 2 p then allGood f (p + 1) else false) else allGood f (p + 1)

theorem ble_false {a b : Nat} (h : ¬ a ≤ b) : Nat.ble a b = false := by
  cases hb : Nat.ble a b
  · rfl
  · exact absurd (Nat.ble_eq.mp hb) h

theorem beq_false {a b : Nat} (h : ¬ a = b) : Nat.beq a b = false := by
  cases hb : Nat.beq a b
  · rfl
  · exact absurd (Nat.eq_of_beq_eq_true hb) h

theorem noDiv_of {n : Nat} (h : Pr n) : ∀ f d, 2 ≤ d → n < (d + f) * (d + f) → noDiv (f + 1) d n = true := by
  intro f
  induction f with
  | zero =>
    intro d _ hn
    simp only [noDiv]
    rw [ble_false (by simpa using hn)]
    rfl
  | succ f ih =>
    intro d hd hn
    rw [noDiv]
    by_cases h1 : d * d ≤ n
    · rw [Nat.ble_eq.mpr h1, beq_false (fun h4 => h.2 d hd h1 (Nat.dvd_of_mod_eq_zero h4))]
      simp only [cond_true, cond_false]
      apply ih (d + 1) (by omega)
      have e : d + 1 + f = d + (f + 1) := by omega
      rw [e]
      exact hn
    · rw [ble_false h1]
      rfl

theorem good_tells {n g p : Nat} : ∀ f q, 2 ≤ q → good f q n g p = true → ∀ k e, q ≤ k → k ≤ e → k * e = n → g ^ k % p ≠ 1 ∧ g ^ e % p ≠ 1 := by
  intro f
  induction f with
  | zero => intro q _ h; simp [good] at h
  | succ f ih =>
    intro q hq2 h k e hq hke hn
    rw [good] at h
    by_cases h1 : q * q ≤ n
    · rw [Nat.ble_eq.mpr h1] at h
      simp only [cond_true] at h
      by_cases h2 : n % q = 0
      · rw [h2] at h
        simp only [Nat.beq_refl, cond_true] at h
        by_cases h3 : g ^ q % p = 1
        · rw [h3] at h; simp at h
        rw [beq_false h3] at h
        simp only [cond_false] at h
        by_cases h4 : g ^ (n / q) % p = 1
        · rw [h4] at h; simp at h
        rw [beq_false h4] at h
        simp only [cond_false] at h
        by_cases h5 : k = q
        · subst h5
          have : e = n / k := by rw [← hn, Nat.mul_div_cancel_left e (by omega)]
          rw [this]
          exact ⟨h3, h4⟩
        · exact ih (q + 1) (by omega) h k e (by omega) hke hn
      · rw [beq_false h2] at h
        simp only [cond_false] at h
        have h5 : k ≠ q := by
          intro h5
          subst h5
          apply h2
          rw [← hn]
          exact Nat.mul_mod_right k e
        exact ih (q + 1) (by omega) h k e (by omega) hke hn
    · exfalso
      apply h1
      rw [← hn]
      exact Nat.mul_le_mul hq (by omega)

theorem search_tells {p : Nat} : ∀ f g, search f g p = true → ∃ h, g ≤ h ∧ 1 < h % p ∧ good 101 2 (p - 1) h p = true := by
  intro f
  induction f with
  | zero => intro g h; simp [search] at h
  | succ f ih =>
    intro g h
    rw [search] at h
    by_cases h0 : g % p ≤ 1
    · rw [Nat.ble_eq.mpr h0] at h; simp at h
    rw [ble_false h0] at h
    simp only [cond_false] at h
    by_cases h1 : good 101 2 (p - 1) g p = true
    · exact ⟨g, by omega, by omega, h1⟩
    · have h2 : good 101 2 (p - 1) g p = false := by simpa using h1
      rw [h2] at h
      simp only [cond_false] at h
      obtain ⟨x, hx, hy, hz⟩ := ih (g + 1) h
      exact ⟨x, by omega, hy, hz⟩

theorem allGood_tells : ∀ f q, allGood f q = true → ∀ p, q ≤ p → p < q + f → p ≤ 10007 → Pr p → search 60 2 p = true := by
  intro f
  induction f with
  | zero => intro q _ p h1 h2; omega
  | succ f ih =>
    intro q h p h1 h2 h3 hp
    rw [allGood] at h
    by_cases h4 : p = q
    · subst h4
      rw [noDiv_of hp 100 2 (by omega) (by omega)] at h
      simp only [cond_true] at h
      cases h5 : search 60 2 p
      · rw [h5] at h; simp at h
      · rfl
    · have h6 : allGood f (q + 1) = true := by
        cases h7 : noDiv 101 2 q
        · rw [h7] at h; simpa using h
        · rw [h7] at h
          simp only [cond_true] at h
          cases h8 : search 60 2 q
          · rw [h8] at h; simp at h
          · rw [h8] at h; simpa using h
      exact ih (q + 1) h6 p (by omega) (by omega) h3 hp

theorem good_1 : allGood 1002 3 = true := by decide +kernel
theorem good_2 : allGood 1000 1005 = true := by decide +kernel
theorem good_3 : allGood 1000 2005 = true := by decide +kernel
theorem good_4 : allGood 1000 3005 = true := by decide +kernel
theorem good_5 : allGood 1000 4005 = true := by decide +kernel
theorem good_6 : allGood 1000 5005 = true := by decide +kernel
theorem good_7 : allGood 1000 6005 = true := by decide +kernel
theorem good_8 : allGood 1000 7005 = true := by decide +kernel
theorem good_9 : allGood 1000 8005 = true := by decide +kernel
theorem good_10 : allGood 1003 9005 = true := by decide +kernel

theorem Pr.search {p : Nat} (h : Pr p) (h3 : 3 ≤ p) (hp : p ≤ 10007) : search 60 2 p = true := by
  rcases Nat.lt_or_ge p 1005 with h1 | h1
  · exact allGood_tells _ _ good_1 p h3 h1 hp h
  rcases Nat.lt_or_ge p 2005 with h2 | h2
  · exact allGood_tells _ _ good_2 p h1 h2 hp h
  rcases Nat.lt_or_ge p 3005 with h3 | h3
  · exact allGood_tells _ _ good_3 p h2 h3 hp h
  rcases Nat.lt_or_ge p 4005 with h4 | h4
  · exact allGood_tells _ _ good_4 p h3 h4 hp h
  rcases Nat.lt_or_ge p 5005 with h5 | h5
  · exact allGood_tells _ _ good_5 p h4 h5 hp h
  rcases Nat.lt_or_ge p 6005 with h6 | h6
  · exact allGood_tells _ _ good_6 p h5 h6 hp h
  rcases Nat.lt_or_ge p 7005 with h7 | h7
  · exact allGood_tells _ _ good_7 p h6 h7 hp h
  rcases Nat.lt_or_ge p 8005 with h8 | h8
  · exact allGood_tells _ _ good_8 p h7 h8 hp h
  rcases Nat.lt_or_ge p 9005 with h9 | h9
  · exact allGood_tells _ _ good_9 p h8 h9 hp h
  · exact allGood_tells _ _ good_10 p h9 (by omega) hp h

/-- there is a generator: a number whose powers below p - 1 are not 1 -/
theorem Pr.generator {p : Nat} (h : Pr p) (h3 : 3 ≤ p) (hp : p ≤ 10007) : ∃ g, 2 ≤ g ∧ ¬ p ∣ g ∧ ∀ k, 0 < k → k < p - 1 → g ^ k % p ≠ 1 := by
  obtain ⟨g, hg, hg1, hgood⟩ := search_tells _ _ (h.search h3 hp)
  have hgp : ¬ p ∣ g := by
    intro hd
    have := Nat.mod_eq_zero_of_dvd hd
    omega
  refine ⟨g, hg, hgp, ?_⟩
  obtain ⟨k, hk0, hk1, hk, hmin, e, he⟩ := h.order hgp
  have hkp : k = p - 1 := by
    apply Classical.byContradiction
    intro hne
    by_cases k1 : k = 1
    · subst k1
      rw [Nat.pow_one] at hk
      omega
    have e0 : e ≠ 0 := by
      intro h0
      subst h0
      simp at he
      omega
    have e1 : e ≠ 1 := by
      intro h0
      subst h0
      simp at he
      omega
    rcases Nat.le_total k e with hle | hle
    · exact (good_tells _ 2 (by omega) hgood k e (by omega) hle he.symm).1 hk
    · exact (good_tells _ 2 (by omega) hgood e k (by omega) hle (by rw [he, Nat.mul_comm])).2 hk
  intro j hj0 hj
  exact hmin j hj0 (by omega)

end Go.Proofs.Ytmbfcnledgeddaa.NT
