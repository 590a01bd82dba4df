/- The law FnExactBothEuclid answers true for all numbers. No condition. -/
import Derived.Test.YtlikjclgpmalkaaSFnExactBothEuclidx3
namespace Go.Proofs.Ytlikjclgpmalkaa.Pure
open Go.RowKit Go.Proofs.Ytlikjclgpmalkaa.SFnExactBothEuclid Go.Proofs.YtlikjclgpmalkaaW.PrintWords Go.Proofs.YtlikjclgpmalkaaW.PrintLast Go.Proofs.YtlikjclgpmalkaaW.PrintMore


theorem be_step (f0 f1 f2 s0 s1 s2 : Int) (h0 : ¬ s0 = 0) (hf : 0 ≤ f0 ∧ f0 ≤ 1000000) (hs : 0 ≤ s0 ∧ s0 ≤ 1000000) (r : Int × Int × Int × Bool)
    (h : Ev (fun k => spec_BothEuclid.l0 k [s0, s1, s2] [wrap64 (f0 - wrap64 (f0 / s0 * s0)), wrap64 (f1 - wrap64 (f0 / s0 * s1)), wrap64 (f2 - wrap64 (f0 / s0 * s2))]) r) :
    Ev (fun k => spec_BothEuclid.l0 k [f0, f1, f2] [s0, s1, s2]) r := by
  have hq0 : 0 ≤ f0 / s0 := Int.ediv_nonneg hf.1 hs.1
  have hq1 : f0 / s0 ≤ f0 := Int.ediv_le_self _ hf.1
  have hq : wrap64 (Int.tdiv f0 s0) = f0 / s0 := by
    rw [Int.tdiv_eq_ediv_of_nonneg hf.1]
    unfold wrap64
    omega
  generalize f0 / s0 = q at h hq hq0 hq1
  have h3 : Ev (fun k => spec_BothEuclid.l1 k [f0, f1, f2] [s0, s1, s2] q [wrap64 (f0 - wrap64 (q * s0)), wrap64 (f1 - wrap64 (q * s1)), wrap64 (f2 - wrap64 (q * s2))] 3 3) r := by
    refine Ev.step (fun k => ?_) h
    simp only [spec_BothEuclid.l1]
    rw [if_neg (by omega)]
  have h2 : Ev (fun k => spec_BothEuclid.l1 k [f0, f1, f2] [s0, s1, s2] q [wrap64 (f0 - wrap64 (q * s0)), wrap64 (f1 - wrap64 (q * s1))] 3 2) r := by
    refine Ev.step (fun k => ?_) h3
    simp only [spec_BothEuclid.l1]
    rw [if_pos (by decide), if_pos (by decide), if_pos (by simp), if_pos (by simp), if_pos (by simp), show wrap64 (2 + 1) = 3 from by unfold wrap64; omega]
    rfl
  have h1 : Ev (fun k => spec_BothEuclid.l1 k [f0, f1, f2] [s0, s1, s2] q [wrap64 (f0 - wrap64 (q * s0))] 3 1) r := by
    refine Ev.step (fun k => ?_) h2
    simp only [spec_BothEuclid.l1]
    rw [if_pos (by decide), if_pos (by decide), if_pos (by simp), if_pos (by simp), if_pos (by simp), show wrap64 (1 + 1) = 2 from by unfold wrap64; omega]
    rfl
  have h0' : Ev (fun k => spec_BothEuclid.l1 k [f0, f1, f2] [s0, s1, s2] q [] 3 0) r := by
    refine Ev.step (fun k => ?_) h1
    simp only [spec_BothEuclid.l1]
    rw [if_pos (by decide), if_pos (by decide), if_pos (by simp), if_pos (by simp), if_pos (by simp), show wrap64 (0 + 1) = 1 from by unfold wrap64; omega]
    rfl
  refine Ev.step (fun k => ?_) h0'
  have e1 : rd [s0, s1, s2] 0 = s0 := rfl
  have e2 : rd [f0, f1, f2] 0 = f0 := rfl
  have e3 : (([s0, s1, s2] : List Int).length : Int) = 3 := rfl
  have e4 : (([f0, f1, f2] : List Int).length : Int) = 3 := rfl
  simp only [spec_BothEuclid.l0, e1, e2, e3, e4]
  rw [if_pos (by omega), if_neg h0, if_pos (by omega), hq]

theorem be_same : ∀ (n : Nat) (f0 f1 f2 s0 s1 s2 : Int), s0.toNat ≤ n → (0 ≤ f0 ∧ f0 ≤ 1000000) → (0 ≤ s0 ∧ s0 ≤ 1000000) →
    ∃ r, Ev (fun k => spec_BothEuclid.l0 k [f0, f1, f2] [s0, s1, s2]) r ∧ Ev (fun k => impl_BothEuclid.l0 k f0 f1 f2 s0 s1 s2) r := by
  intro n
  induction n with
  | zero =>
    intro f0 f1 f2 s0 s1 s2 hn hf hs
    obtain rfl : s0 = 0 := by omega
    refine ⟨(f0, f1, f2, true), ⟨1, fun k hk => ?_⟩, ⟨1, fun k hk => ?_⟩⟩
    · obtain ⟨k, rfl⟩ : ∃ m, k = m + 1 := ⟨k - 1, by omega⟩
      simp only [spec_BothEuclid.l0]
      rfl
    · obtain ⟨k, rfl⟩ : ∃ m, k = m + 1 := ⟨k - 1, by omega⟩
      simp only [impl_BothEuclid.l0]
      rw [if_pos trivial]
  | succ n ih =>
    intro f0 f1 f2 s0 s1 s2 hn hf hs
    by_cases h0 : s0 = 0
    · subst h0
      refine ⟨(f0, f1, f2, true), ⟨1, fun k hk => ?_⟩, ⟨1, fun k hk => ?_⟩⟩
      · obtain ⟨k, rfl⟩ : ∃ m, k = m + 1 := ⟨k - 1, by omega⟩
        simp only [spec_BothEuclid.l0]
        rfl
      · obtain ⟨k, rfl⟩ : ∃ m, k = m + 1 := ⟨k - 1, by omega⟩
        simp only [impl_BothEuclid.l0]
        rw [if_pos trivial]
    · have hm0 := Int.emod_nonneg f0 h0
      have hm1 := Int.emod_lt_of_pos f0 (show 0 < s0 by omega)
      have hq0 : 0 ≤ f0 / s0 := Int.ediv_nonneg hf.1 hs.1
      have hme : f0 / s0 * s0 + f0 % s0 = f0 := by rw [Int.mul_comm]; exact Int.mul_ediv_add_emod f0 s0
      have hp : 0 ≤ f0 / s0 * s0 := Int.mul_nonneg hq0 hs.1
      have hw : wrap64 (f0 - wrap64 (f0 / s0 * s0)) = f0 % s0 := by
        generalize f0 / s0 * s0 = p at hme hp
        generalize f0 % s0 = m at hme hm0 hm1
        unfold wrap64
        omega
      obtain ⟨r, h1, h2⟩ := ih s0 s1 s2 (f0 % s0) (wrap64 (f1 - wrap64 (f0 / s0 * s1))) (wrap64 (f2 - wrap64 (f0 / s0 * s2))) (by omega) hs (by omega)
      refine ⟨r, be_step f0 f1 f2 s0 s1 s2 h0 hf hs r (by rw [hw]; exact h1), ?_⟩
      refine Ev.step (fun k => ?_) h2
      simp only [impl_BothEuclid.l0]
      rw [if_neg h0, if_pos ⟨hf, hs⟩, hw]

theorem be_in (a : Int) : spec_l1In.f a 0 1000000 = some (decide (0 ≤ a ∧ a ≤ 1000000)) := by
  unfold spec_l1In.f
  by_cases h : a ≥ 0
  · rw [if_pos h]; congr 1; simp; omega
  · rw [if_neg h]; congr 1; simp; omega

theorem FnExactBothEuclid : laws_FnExactBothEuclid.Pure := by
  intro a b _ _
  have key : ∃ r, Ev (fun k => spec_BothEuclid.f k a b) r ∧ Ev (fun k => impl_BothEuclid.f k a b) r := by
    have bad : beOk a b = false → Ev (fun k => impl_BothEuclid.f k a b) (0, 0, 0, false) := fun h => Ev.congr (fun k => by unfold impl_BothEuclid.f; rw [h, if_neg (by decide)]) (Ev.now _)
    have j1 : Ev (fun k => spec_BothEuclid.j0 k a b true) (0, 0, 0, false) := by
      refine ⟨1, fun k hk => ?_⟩
      obtain ⟨k, rfl⟩ : ∃ m, k = m + 1 := ⟨k - 1, by omega⟩
      simp only [spec_BothEuclid.j0]
      rw [if_pos trivial]
    by_cases ha : 0 ≤ a ∧ a ≤ 1000000
    · by_cases hb : 0 ≤ b ∧ b ≤ 1000000
      · obtain ⟨r, h1, h2⟩ := be_same b.toNat a 1 0 b 0 1 (Nat.le_refl _) ha hb
        have j0 : Ev (fun k => spec_BothEuclid.j0 k a b false) r := by
          refine Ev.step (fun k => ?_) h1
          simp only [spec_BothEuclid.j0]
          rw [if_neg (by decide)]
        by_cases hz : a = 0 ∧ b = 0
        · refine ⟨_, ?_, bad (by unfold beOk; rw [decide_eq_true ha, decide_eq_true hb, decide_eq_true hz.1, decide_eq_true hz.2]; rfl)⟩
          refine Ev.congr (fun k => by unfold spec_BothEuclid.f; rw [be_in, Option.bind_some, decide_eq_true ha, if_pos rfl, be_in, Option.bind_some, decide_eq_true hb, if_pos rfl, if_pos hz.1, show (b == 0) = true from beq_iff_eq.mpr hz.2]) j1
        · have hok : beOk a b = true := by
            unfold beOk
            rw [decide_eq_true ha, decide_eq_true hb]
            by_cases h : a = 0
            · rw [decide_eq_true h, decide_eq_false (fun h' => hz ⟨h, h'⟩)]; rfl
            · rw [decide_eq_false h]; rfl
          refine ⟨r, ?_, Ev.congr (fun k => by unfold impl_BothEuclid.f; rw [if_pos hok]) h2⟩
          by_cases h : a = 0
          · refine Ev.congr (fun k => by unfold spec_BothEuclid.f; rw [be_in, Option.bind_some, decide_eq_true ha, if_pos rfl, be_in, Option.bind_some, decide_eq_true hb, if_pos rfl, if_pos h, show (b == 0) = false from beq_eq_false_iff_ne.mpr (fun h' => hz ⟨h, h'⟩)]) j0
          · refine Ev.congr (fun k => by unfold spec_BothEuclid.f; rw [be_in, Option.bind_some, decide_eq_true ha, if_pos rfl, be_in, Option.bind_some, decide_eq_true hb, if_pos rfl, if_neg h]) j0
      · refine ⟨_, ?_, bad (by unfold beOk; rw [decide_eq_true ha, decide_eq_false hb]; rfl)⟩
        refine Ev.congr (fun k => by unfold spec_BothEuclid.f; rw [be_in, Option.bind_some, decide_eq_true ha, if_pos rfl, be_in, Option.bind_some, decide_eq_false hb, if_neg (by decide)]) j1
    · refine ⟨_, ?_, bad (by unfold beOk; rw [decide_eq_false ha]; rfl)⟩
      refine Ev.congr (fun k => by unfold spec_BothEuclid.f; rw [be_in, Option.bind_some, decide_eq_false ha, if_neg (by decide)]) j1
  obtain ⟨r, h1, h2⟩ := key
  refine Ev.rounds (Ev.congr (fun k => by unfold laws_FnExactBothEuclid.f; rfl) (Ev.bind h1 (Ev.bind h2 ?_)))
  simp only [if_true, bne_self_eq_false, Bool.false_eq_true, if_false]
  exact Ev.now _

end Go.Proofs.Ytlikjclgpmalkaa.Pure
