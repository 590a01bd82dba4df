/- Plain number theory over the naturals: pigeonhole, Fermat's little theorem. No program in sight. -/
namespace Go.Proofs.Ytghikmnjccgchaa.NT

theorem perm_of_nodup : ∀ (l1 l2 : List Nat), l1.Nodup → (∀ x ∈ l1, x ∈ l2) → l2.length ≤ l1.length → l1.Perm l2 := by
  intro l1
  induction l1 with
  | nil =>
    intro l2 _ _ hl
    have : l2 = [] := List.eq_nil_of_length_eq_zero (by simpa using hl)
    subst this
    exact List.Perm.nil
  | cons x xs ih =>
    intro l2 hn hs hl
    have hx : x ∈ l2 := hs x (by simp)
    have hn' := List.nodup_cons.mp hn
    have hp := List.perm_cons_erase hx
    have hle := List.length_erase_of_mem hx
    have hpos : 0 < l2.length := List.length_pos_of_mem hx
    have h2 : xs.Perm (l2.erase x) := by
      apply ih _ hn'.2
      · intro y hy
        have hne : y ≠ x := fun h => hn'.1 (h ▸ hy)
        exact (List.mem_erase_of_ne hne).mpr (hs y (by simp [hy]))
      · simp only [List.length_cons] at hl
        omega
    exact (List.Perm.cons x h2).trans hp.symm

/-- no injection of more than N numbers into the numbers below N -/
theorem pigeon (f : Nat → Nat) (N : Nat) (hb : ∀ i, i ≤ N → f i < N) : ∃ i j, i < j ∧ j ≤ N ∧ f i = f j := by
  apply Classical.byContradiction
  intro hno
  have hinj : ∀ i j, i ≤ N → j ≤ N → f i = f j → i = j := by
    intro i j hi hj he
    rcases Nat.lt_trichotomy i j with h | h | h
    · exact absurd ⟨i, j, h, hj, he⟩ hno
    · exact h
    · exact absurd ⟨j, i, h, hi, he.symm⟩ hno
  have hnd : ((List.range (N + 1)).map f).Nodup := by
    rw [List.nodup_iff_pairwise_ne, List.pairwise_map]
    refine List.Pairwise.imp_of_mem ?_ List.nodup_range
    intro a b ha hb' hab he
    exact hab (hinj a b (by have := List.mem_range.mp ha; omega) (by have := List.mem_range.mp hb'; omega) he)
  have hlen := (perm_of_nodup ((List.range (N + 1)).map f) (List.range N) hnd (by
    intro x hx
    obtain ⟨i, hi, rfl⟩ := List.mem_map.mp hx
    exact List.mem_range.mpr (hb i (by have := List.mem_range.mp hi; omega))) (by simp)).length_eq
  simp at hlen

def prod : List Nat → Nat
  | [] => 1
  | x :: xs => x * prod xs

theorem prod_perm {l1 l2 : List Nat} (h : l1.Perm l2) : prod l1 = prod l2 := by
  induction h with
  | nil => rfl
  | cons x _ ih => simp [prod, ih]
  | swap x y l => simp only [prod]; rw [Nat.mul_left_comm]
  | trans _ _ ih1 ih2 => rw [ih1, ih2]

/-- prime, by trial division up to the root, as the program asks it -/
def Pr (p : Nat) : Prop := 1 < p ∧ ∀ d, 2 ≤ d → d * d ≤ p → ¬ d ∣ p

theorem Pr.no_div {p : Nat} (h : Pr p) {d : Nat} (hd : d ∣ p) : d = 1 ∨ d = p := by
  obtain ⟨e, he⟩ := hd
  by_cases h1 : d = 1
  · exact Or.inl h1
  by_cases h2 : e = 1
  · right; subst h2; omega
  exfalso
  have hp := h.1
  have d0 : d ≠ 0 := by intro h0; subst h0; simp at he; omega
  have e0 : e ≠ 0 := by intro h0; subst h0; simp at he; omega
  rcases Nat.le_total d e with hle | hle
  · exact h.2 d (by omega) (by rw [he]; exact Nat.mul_le_mul_left d hle) ⟨e, he⟩
  · exact h.2 e (by omega) (by rw [he]; exact Nat.mul_le_mul_right e hle) ⟨d, by rw [he, Nat.mul_comm]⟩

theorem Pr.coprime {p a : Nat} (h : Pr p) (ha : ¬ p ∣ a) : Nat.Coprime p a := by
  rcases h.no_div (Nat.gcd_dvd_left p a) with h1 | h1
  · exact h1
  · exfalso; apply ha; rw [← h1]; exact Nat.gcd_dvd_right p a

theorem Pr.euclid {p a b : Nat} (h : Pr p) (hd : p ∣ a * b) : p ∣ a ∨ p ∣ b := by
  by_cases ha : p ∣ a
  · exact Or.inl ha
  · exact Or.inr ((h.coprime ha).dvd_of_dvd_mul_left hd)

theorem Pr.not_dvd_pow {p a : Nat} (h : Pr p) (ha : ¬ p ∣ a) : ∀ k, ¬ p ∣ a ^ k := by
  intro k
  induction k with
  | zero => intro hd; have := Nat.le_of_dvd (by simp) hd; have := h.1; simp at *; omega
  | succ k ih =>
    intro hd
    rw [Nat.pow_succ] at hd
    rcases h.euclid hd with h1 | h1
    · exact ih h1
    · exact ha h1

theorem Pr.not_dvd_prod {p : Nat} (h : Pr p) : ∀ l : List Nat, (∀ x ∈ l, ¬ p ∣ x) → ¬ p ∣ prod l := by
  intro l
  induction l with
  | nil => intro _ hd; have := Nat.le_of_dvd (by simp [prod]) hd; have := h.1; simp [prod] at *; omega
  | cons x xs ih =>
    intro hx hd
    rcases h.euclid hd with h1 | h1
    · exact hx x (by simp) h1
    · exact ih (fun y hy => hx y (by simp [hy])) h1

theorem mod_eq_of_dvd_sub {p a b : Nat} (hle : a ≤ b) (h : p ∣ b - a) : b % p = a % p := by
  obtain ⟨k, hk⟩ := h
  have : b = a + p * k := by omega
  rw [this, Nat.add_mul_mod_self_left]

theorem dvd_sub_of_mod_eq {p a b : Nat} (h : b % p = a % p) : p ∣ b - a := by
  exact Nat.dvd_of_mod_eq_zero (Nat.sub_mod_eq_zero_of_mod_eq h)

/-- cancelling a factor modulo a prime -/
theorem Pr.cancel {p : Nat} (h : Pr p) {a x y : Nat} (ha : ¬ p ∣ a) (he : (a * x) % p = (a * y) % p) : x % p = y % p := by
  rcases Nat.le_total x y with hle | hle
  · have hd := dvd_sub_of_mod_eq he.symm
    rw [← Nat.mul_sub] at hd
    rcases h.euclid hd with h1 | h1
    · exact absurd h1 ha
    · exact (mod_eq_of_dvd_sub hle h1).symm
  · have hd := dvd_sub_of_mod_eq he
    rw [← Nat.mul_sub] at hd
    rcases h.euclid hd with h1 | h1
    · exact absurd h1 ha
    · exact mod_eq_of_dvd_sub hle h1

theorem prod_map_mod (a p : Nat) : ∀ l : List Nat, prod (l.map (fun x => a * x % p)) % p = (a ^ l.length * prod l) % p := by
  intro l
  induction l with
  | nil => simp [prod]
  | cons x xs ih =>
    simp only [List.map_cons, prod, List.length_cons]
    rw [Nat.mul_mod, ih, ← Nat.mul_mod]
    rw [Nat.mod_mul_mod, Nat.pow_succ]
    congr 1
    rw [Nat.mul_comm (a ^ xs.length) a, Nat.mul_mul_mul_comm]

/-- Fermat -/
theorem Pr.fermat {p a : Nat} (h : Pr p) (ha : ¬ p ∣ a) : a ^ (p - 1) % p = 1 := by
  have hp := h.1
  let L := List.range' 1 (p - 1)
  have hmem : ∀ x, x ∈ L ↔ 1 ≤ x ∧ x < p := by
    intro x
    simp only [L, List.mem_range'_1]
    omega
  have hnd : ∀ x ∈ L, ¬ p ∣ x := by
    intro x hx hd
    have := Nat.le_of_dvd (by have := (hmem x).mp hx; omega) hd
    have := (hmem x).mp hx
    omega
  have hperm : (L.map (fun x => a * x % p)).Perm L := by
    apply perm_of_nodup
    · rw [List.nodup_iff_pairwise_ne, List.pairwise_map]
      refine List.Pairwise.imp_of_mem ?_ (List.nodup_range' (s := 1) (n := p - 1) (step := 1))
      intro x y hx hy hxy he
      have h1 := h.cancel ha he
      have hx' := (hmem x).mp hx
      have hy' := (hmem y).mp hy
      rw [Nat.mod_eq_of_lt hx'.2, Nat.mod_eq_of_lt hy'.2] at h1
      exact hxy h1
    · intro y hy
      obtain ⟨x, hx, rfl⟩ := List.mem_map.mp hy
      apply (hmem _).mpr
      refine ⟨?_, Nat.mod_lt _ (by omega)⟩
      apply Nat.pos_of_ne_zero
      intro h0
      rcases h.euclid (Nat.dvd_of_mod_eq_zero h0) with h1 | h1
      · exact ha h1
      · exact hnd x hx h1
    · simp
  have h1 := prod_map_mod a p L
  rw [prod_perm hperm] at h1
  have hlen : L.length = p - 1 := by simp [L]
  rw [hlen] at h1
  have h2 : (prod L * 1) % p = (prod L * a ^ (p - 1)) % p := by rw [Nat.mul_one, h1, Nat.mul_comm]
  have h3 := h.cancel (h.not_dvd_prod L hnd) h2
  rw [← h3]
  exact Nat.mod_eq_of_lt hp

/-- Euler's criterion, the half that the program needs: a square other than 0 has the power 1 -/
theorem Pr.euler {p a n : Nat} (h : Pr p) (hodd : p % 2 = 1) (hn : n * n % p = a % p) (ha : ¬ p ∣ a) : a ^ ((p - 1) / 2) % p = 1 := by
  have hp := h.1
  have hnn : ¬ p ∣ n := by
    intro hd
    apply ha
    apply Nat.dvd_of_mod_eq_zero
    rw [← hn]
    exact Nat.mod_eq_zero_of_dvd (Nat.dvd_mul_right_of_dvd hd n)
  have h1 := h.fermat hnn
  rw [Nat.pow_mod, ← hn, ← Nat.pow_mod, ← Nat.pow_two, ← Nat.pow_mul]
  have : 2 * ((p - 1) / 2) = p - 1 := by omega
  rw [this]
  exact h1

end Go.Proofs.Ytghikmnjccgchaa.NT
