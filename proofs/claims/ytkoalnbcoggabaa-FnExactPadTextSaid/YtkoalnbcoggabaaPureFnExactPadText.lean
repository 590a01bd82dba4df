/- The law FnExactPadText answers true for every text. No condition. -/
import Derived.Test.YtkoalnbcoggabaaSFnExactPadTextx1
import Derived.Test.YtkoalnbcoggabaaPad0
import Derived.Test.YtkoalnbcoggabaaPad1
import Derived.Test.YtkoalnbcoggabaaPad2
import Derived.Test.YtkoalnbcoggabaaPad3
import Derived.Test.YtkoalnbcoggabaaPad4
import Derived.Test.YtkoalnbcoggabaaPad5
namespace Go.Proofs.Ytkoalnbcoggabaa.Pure
open Go.RowKit Go.Proofs.Ytkoalnbcoggabaa.SFnExactPadText Go.Proofs.YtkoalnbcoggabaaW.PrintWords Go.Proofs.YtkoalnbcoggabaaW.PrintLast Go.Proofs.YtkoalnbcoggabaaW.PrintMore

theorem pad_of {a n : Nat} (h : padR a = true) (h1 : a ≤ n) (h2 : n < a + 51) : padOk n = true := by
  have e := List.all_eq_true.mp h (n - a) (List.mem_range.mpr (by omega))
  rw [show a + (n - a) = n by omega] at e
  exact e
theorem pad_all {n : Nat} (h : n ≤ 600) : padOk n = true := by
  by_cases h0 : n < 51
  · exact pad_of pad_0 (by omega) (by omega)
  by_cases h1 : n < 102
  · exact pad_of pad_1 (by omega) (by omega)
  by_cases h2 : n < 153
  · exact pad_of pad_2 (by omega) (by omega)
  by_cases h3 : n < 204
  · exact pad_of pad_3 (by omega) (by omega)
  by_cases h4 : n < 255
  · exact pad_of pad_4 (by omega) (by omega)
  by_cases h5 : n < 306
  · exact pad_of pad_5 (by omega) (by omega)
  by_cases h6 : n < 357
  · exact pad_of pad_6 (by omega) (by omega)
  by_cases h7 : n < 408
  · exact pad_of pad_7 (by omega) (by omega)
  by_cases h8 : n < 459
  · exact pad_of pad_8 (by omega) (by omega)
  by_cases h9 : n < 510
  · exact pad_of pad_9 (by omega) (by omega)
  by_cases h10 : n < 561
  · exact pad_of pad_10 (by omega) (by omega)
  exact pad_of pad_11 (by omega) (by omega)
theorem pad_same {n : Nat} (h : n ≤ 600) : ∃ t : ByteArray, t.size ≤ 100 ∧ Ev (fun k => spec_l1Tail.f k (n : Int)) t ∧ Ev (fun k => impl_padding.f k (n : Int)) t := by
  obtain ⟨t, ht, h1, h2⟩ := padOk_spec (pad_all h)
  exact ⟨t, ht, Ev.of (g := fun k => spec_l1Tail.f k (n : Int)) (fun k => spec_l1Tail.mono _ k) h1, Ev.of (g := fun k => impl_padding.f k (n : Int)) (fun k => impl_padding.mono _ k) h2⟩


theorem FnExactPadText : laws_FnExactPadText.Pure := by
  intro s _
  by_cases h : (s.size : Int) > 1048576
  · exact ⟨0, by unfold laws_FnExactPadText.f; rw [if_pos h]⟩
  by_cases h6 : (s.size : Int) > 600
  · refine ⟨0, ?_⟩
    unfold laws_FnExactPadText.f spec_PadText.f impl_PadText.f
    rw [if_neg h, if_pos h6, if_pos h6]
    simp
  · obtain ⟨t, ht, hs, hi⟩ := pad_same (n := s.size) (by omega)
    have hsz : s.size + t.size ≤ 9223372036854775807 := by omega
    refine Ev.rounds (Ev.congr (fun k => by unfold laws_FnExactPadText.f spec_PadText.f impl_PadText.f; rw [if_neg h, if_neg h6, if_neg h6]) ?_)
    refine Ev.bind (a := (s ++ t, true)) (Ev.bind hs ?_) (Ev.bind (a := (s ++ t, true)) (Ev.bind hi ?_) ?_)
    · simp only [hsz, if_true]; exact Ev.now _
    · simp only [hsz, if_true]; exact Ev.now _
    · simp only [if_true, bne_self_eq_false, Bool.false_eq_true, if_false]
      exact Ev.now _

end Go.Proofs.Ytkoalnbcoggabaa.Pure
