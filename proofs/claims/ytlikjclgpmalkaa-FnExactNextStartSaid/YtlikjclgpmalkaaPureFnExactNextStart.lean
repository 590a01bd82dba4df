/- The law FnExactNextStart answers true for every string and every number. No condition. -/
import Derived.Test.YtlikjclgpmalkaaPFnExactNextStartx1
namespace Go.Proofs.Ytlikjclgpmalkaa.Pure
open Go.RowKit Go.Proofs.Ytlikjclgpmalkaa.PFnExactNextStart Go.Proofs.YtlikjclgpmalkaaW.PrintWords Go.Proofs.YtlikjclgpmalkaaW.PrintLast Go.Proofs.YtlikjclgpmalkaaW.PrintMore

theorem loop_ev (s : ByteArray) (hn : s.size ≤ 140737488351232) : ∀ (d : Nat) (i : Int), 0 ≤ i → i ≤ s.size → (s.size : Int) - i = d →
    ∃ r, Ev (fun k => spec_NextStart.l0 k s i) r ∧ Ev (fun k => impl_NextStart.l0 k s i) r := by
  intro d
  induction d with
  | zero =>
    intro i h0 h1 hd
    have hlt : ¬ i < (s.size : Int) := by omega
    exact ⟨(i, true), Ev.step (fun k => by simp only [spec_NextStart.l0]; rw [if_neg hlt]) (Ev.now _), Ev.step (fun k => by simp only [impl_NextStart.l0]; rw [if_neg hlt]) (Ev.now _)⟩
  | succ d ih =>
    intro i h0 h1 hd
    have hlt : i < (s.size : Int) := by omega
    have hw : wrap64 (i + 1) = i + 1 := by unfold wrap64; omega
    have e : impl_IsStart.f (bt s i) = spec_IsStart.f (bt s i) := rfl
    have hb : ∃ b, spec_IsStart.f (bt s i) = some b := by unfold spec_IsStart.f; split <;> exact ⟨_, rfl⟩
    obtain ⟨b, hb⟩ := hb
    cases b with
    | true =>
      refine ⟨(i, true), Ev.step (fun k => ?_) (Ev.now _), Ev.step (fun k => ?_) (Ev.now _)⟩
      · simp only [spec_NextStart.l0]; rw [if_pos hlt, if_pos h0, hb]; simp
      · simp only [impl_NextStart.l0]; rw [if_pos hlt, if_pos h0, e, hb]; simp
    | false =>
      obtain ⟨r, hs, hi⟩ := ih (i + 1) (by omega) (by omega) (by omega)
      refine ⟨r, Ev.step (fun k => ?_) hs, Ev.step (fun k => ?_) hi⟩
      · simp only [spec_NextStart.l0]; rw [if_pos hlt, if_pos h0, hb, hw]; simp
      · simp only [impl_NextStart.l0]; rw [if_pos hlt, if_pos h0, e, hb, hw]; simp

theorem both_ev (s : ByteArray) (hn : s.size ≤ 140737488351232) (i : Int) :
    ∃ r, Ev (fun k => spec_NextStart.f k s i) r ∧ Ev (fun k => impl_NextStart.f k s i) r := by
  unfold spec_NextStart.f impl_NextStart.f spec_l2Long.f spec_l1In.f impl_within.f
  by_cases h1 : (s.size : Int) ≤ 240
  · have h1' : ¬ (s.size : Int) > 240 := by omega
    by_cases h2 : i ≥ 0
    · by_cases h3 : i ≤ (s.size : Int)
      · obtain ⟨r, hs, hi⟩ := loop_ev s hn ((s.size : Int) - i).toNat i (by omega) (by omega) (by omega)
        refine ⟨r, Ev.step (fun k => ?_) hs, Ev.step (fun k => ?_) hi⟩
        · simp [h1, h2, h3, spec_NextStart.j0]
        · simp [h1', h2, h3, impl_NextStart.j0]
      · refine ⟨(0, false), Ev.step (fun k => ?_) (Ev.now _), Ev.step (fun k => ?_) (Ev.now _)⟩
        · simp [h1, h2, h3, spec_NextStart.j0]
        · simp [h1', h2, h3, impl_NextStart.j0]
    · refine ⟨(0, false), Ev.step (fun k => ?_) (Ev.now _), Ev.step (fun k => ?_) (Ev.now _)⟩
      · simp [h1, h2, spec_NextStart.j0]
      · simp [h1', h2, impl_NextStart.j0]
  · have h1' : (s.size : Int) > 240 := by omega
    refine ⟨(0, false), Ev.step (fun k => ?_) (Ev.now _), Ev.step (fun k => ?_) (Ev.now _)⟩
    · simp [h1, spec_NextStart.j0]
    · simp [h1', impl_NextStart.j0]

theorem FnExactNextStart : laws_FnExactNextStart.Pure := by
  intro a0 a1 hn _
  obtain ⟨r, hs, hi⟩ := both_ev a0 hn a1
  by_cases h : (a0.size : Int) > 1048576
  · exact ⟨0, by unfold laws_FnExactNextStart.f; rw [if_pos h]⟩
  · refine Ev.rounds (Ev.congr (fun k => by unfold laws_FnExactNextStart.f; rw [if_neg h]) (Ev.bind hs (Ev.bind hi ?_)))
    simp only [if_true, bne_self_eq_false]
    exact Ev.now _

end Go.Proofs.Ytlikjclgpmalkaa.Pure
