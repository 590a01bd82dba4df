/- The law FnExactGoodState answers true for every state. The lengths are those that a slice and a string can have. -/
import Derived.Test.YtkoalnbcoggabaaSFnExactGoodStatex2
namespace Go.Proofs.Ytkoalnbcoggabaa.Pure
open Go.RowKit Go.Proofs.Ytkoalnbcoggabaa.SFnExactGoodState Go.Proofs.YtkoalnbcoggabaaW.PrintWords Go.Proofs.YtkoalnbcoggabaaW.PrintLast Go.Proofs.YtkoalnbcoggabaaW.PrintMore

theorem to_loop (l : List Int) (hl : l.length ≤ 2000000) : ∀ (d i : Nat) (x : List Int), i + d = l.length → x.length = l.length → (∀ j, j < i → x[j]? = l[j]?) → Ev (fun k => laws_toIntS.l0 k l x (i : Int)) l := by
  intro d
  induction d with
  | zero =>
    intro i x hi hx hj
    have e : x = l := by
      apply List.ext_getElem?
      intro j
      by_cases h : j < i
      · exact hj j h
      · rw [List.getElem?_eq_none (by omega), List.getElem?_eq_none (by omega)]
    subst e
    refine Ev.step (f := fun _ => some _) (fun k => ?_) (Ev.now _)
    simp only [laws_toIntS.l0]
    rw [if_neg (by omega)]
  | succ d ih =>
    intro i x hi hx hj
    have hw2 : wrap64 ((i : Int) + 1) = ((i + 1 : Nat) : Int) := by unfold wrap64; omega
    refine Ev.step (fun k => ?_) (ih (i + 1) (x.set i (rd l (i : Int))) (by omega) (by simpa using hx) ?_)
    · simp only [laws_toIntS.l0]
      rw [if_pos (by omega), if_pos (by omega), if_pos (by omega), hw2, Int.toNat_natCast]
    · intro j h
      by_cases he : j = i
      · subst he
        rw [List.getElem?_set_self (by omega)]
        unfold rd
        rw [List.getD_eq_getElem?_getD, Int.toNat_natCast, List.getElem?_eq_getElem (by omega)]
        simp
      · rw [List.getElem?_set_ne (by omega)]
        exact hj j (by omega)

theorem to_ev (l : List Int) (hl : l.length ≤ 2000000) : Ev (fun k => laws_toIntS.f k l) l := by
  refine Ev.congr (fun k => ?_) (to_loop l hl l.length 0 (List.replicate l.length 0) (by omega) (by simp) (fun j h => by omega))
  unfold laws_toIntS.f
  rw [if_pos (by omega), if_pos (by omega), Int.toNat_natCast]
  rfl


theorem eq_loop (l : List Int) (hl : l.length ≤ 2000000) : ∀ (d i : Nat), i + d = l.length → Ev (fun k => laws_eqIntS.l0 k l l (i : Int)) true := by
  intro d
  induction d with
  | zero =>
    intro i hi
    refine Ev.step (f := fun _ => some _) (fun k => ?_) (Ev.now _)
    simp only [laws_eqIntS.l0]
    rw [if_neg (by omega)]
  | succ d ih =>
    intro i hi
    have hw2 : wrap64 ((i : Int) + 1) = ((i + 1 : Nat) : Int) := by unfold wrap64; omega
    refine Ev.step (fun k => ?_) (ih (i + 1) (by omega))
    simp only [laws_eqIntS.l0]
    rw [if_pos (by omega), if_pos (by omega), if_pos (by omega), hw2]
    simp

theorem eq_ev (l : List Int) (hl : l.length ≤ 2000000) : Ev (fun k => laws_eqIntS.f k l l) true := by
  refine Ev.congr (fun k => ?_) (eq_loop l hl l.length 0 (by omega))
  unfold laws_eqIntS.f
  rw [if_pos rfl]
  rfl


theorem in_ev (a lo hi : Int) : spec_l1In.f a lo hi = some (decide (lo ≤ a ∧ a ≤ hi)) := by
  unfold spec_l1In.f
  by_cases h : a ≥ lo
  · rw [if_pos h]; congr 1; simp; omega
  · rw [if_neg h]; congr 1; simp; omega
theorem all_loop (l : List Int) (hl : l.length ≤ 2000000) : ∀ (d i : Nat), i + d = l.length → Ev (fun k => spec_l1All.l0 k 0 4294967295 l (l.length : Int) (i : Int)) ((l.drop i).all isW) := by
  intro d
  induction d with
  | zero =>
    intro i hi
    have e : l.drop i = [] := List.drop_eq_nil_of_le (by omega)
    rw [e]
    refine Ev.step (f := fun _ => some _) (fun k => ?_) (Ev.now _)
    simp only [spec_l1All.l0]
    rw [if_neg (by omega)]
    rfl
  | succ d ih =>
    intro i hi
    have hw2 : wrap64 ((i : Int) + 1) = ((i + 1 : Nat) : Int) := by unfold wrap64; omega
    have hd : l.drop i = rd l (i : Int) :: l.drop (i + 1) := by
      rw [List.drop_eq_getElem_cons (by omega)]
      congr 1
      unfold rd
      rw [List.getD_eq_getElem?_getD, Int.toNat_natCast, List.getElem?_eq_getElem (by omega)]
      simp
    rw [hd, List.all_cons]
    have hi' : spec_l1In.f (rd l (i : Int)) 0 4294967295 = some (isW (rd l (i : Int))) := in_ev _ _ _
    cases hg : isW (rd l (i : Int)) with
    | true =>
      rw [Bool.true_and]
      refine Ev.step (fun k => ?_) (ih (i + 1) (by omega))
      simp only [spec_l1All.l0]
      rw [if_pos (by omega), if_pos (by omega), if_pos (by omega), hi', hg, hw2]
      simp
    | false =>
      rw [Bool.false_and]
      refine Ev.step (f := fun _ => some _) (fun k => ?_) (Ev.now _)
      simp only [spec_l1All.l0]
      rw [if_pos (by omega), if_pos (by omega), if_pos (by omega), hi', hg]
      simp
theorem bad_all (l : List Int) : badW l = !(l.all isW) := by
  unfold badW
  rw [List.not_all_eq_any_not]

theorem both_ev (l : List Int) (hl : l.length ≤ 2000000) (s : ByteArray) (n : Int) : ∃ r, Ev (fun k => spec_GoodState.f k l s n) r ∧ impl_GoodState.f l s n = some r := by
  have ha := all_loop l hl l.length 0 (by omega)
  unfold spec_GoodState.f impl_GoodState.f impl_isState.f spec_l1All.f
  rw [bad_all]
  rw [List.drop_zero] at ha
  by_cases h8 : (l.length : Int) = 8
  · simp only [h8, if_true]
    rw [h8] at ha
    cases hg : l.all isW with
    | true =>
      rw [hg] at ha
      by_cases hn : 0 ≤ n ∧ n ≤ 1000000
      · refine ⟨(s.size : Int) == Int.tmod n 64, Ev.bind ha ?_, ?_⟩
        · simp only [if_true, in_ev, hn, and_self, decide_true, Option.bind_some]
          exact Ev.now _
        · simp [hn]
      · refine ⟨false, Ev.bind ha ?_, ?_⟩
        · simp only [if_true, in_ev, hn, decide_false, Option.bind_some, Bool.false_eq_true, if_false]
          exact Ev.now _
        · simp [hn]
    | false =>
      rw [hg] at ha
      refine ⟨false, Ev.bind ha ?_, ?_⟩
      · simp only [Bool.false_eq_true, if_false]
        exact Ev.now _
      · simp
  · simp only [h8, if_false]
    exact ⟨false, Ev.now _, rfl⟩

theorem sz_ev (l : List Int) (s : ByteArray) (n : Int) (hl : l.length ≤ 2 ^ 63 - 1) (hs : s.size ≤ 2 ^ 63 - 1) : ∃ t : Int, laws_szState.f l s n 1048576 = some t ∧ (t < 0 ∨ l.length ≤ 1048576) := by
  unfold laws_szState.f laws_szIntS.f
  have e1 : wrap64 (1048576 - (l.length : Int)) = 1048576 - (l.length : Int) := by unfold wrap64; omega
  rw [e1]
  by_cases h1 : (1048576 - (l.length : Int)) < 0
  · rw [if_pos h1]
    exact ⟨-1, by simp, .inl (by omega)⟩
  · rw [if_neg h1, Option.bind_some, if_neg h1]
    have e2 : wrap64 (1048576 - (l.length : Int) - (s.size : Int)) = 1048576 - (l.length : Int) - (s.size : Int) := by unfold wrap64; omega
    rw [e2]
    by_cases h2 : 1048576 - (l.length : Int) - (s.size : Int) < 0
    · exact ⟨-1, by rw [if_pos h2], .inl (by omega)⟩
    · exact ⟨_, by rw [if_neg h2], .inr (by omega)⟩

theorem FnExactGoodState (l : List Int) (s : ByteArray) (n : Int) (hl : l.length ≤ 2 ^ 63 - 1) (hs : s.size ≤ 2 ^ 63 - 1) : ∃ k, laws_FnExactGoodState.f k l s n = some true := by
  obtain ⟨t, ht, hor⟩ := sz_ev l s n hl hs
  by_cases h : t < 0
  · exact ⟨0, by unfold laws_FnExactGoodState.f; rw [ht, Option.bind_some, if_pos h]⟩
  have hl' : l.length ≤ 1048576 := hor.resolve_left h
  obtain ⟨r, es, ei⟩ := both_ev l (by omega) s n
  have hto : Ev (fun k => laws_toState.f k l s n) (l, s, n) := by
    unfold laws_toState.f
    exact Ev.bind (to_ev l (by omega)) (Ev.now _)
  have eq : Ev (fun k => laws_eqState.f k l s n l s n) true := by
    unfold laws_eqState.f
    refine Ev.bind (eq_ev l (by omega)) ?_
    simp only [if_true]
    exact Ev.now _
  refine Ev.rounds (Ev.congr (fun k => by unfold laws_FnExactGoodState.f; rw [ht, Option.bind_some, if_neg h]) (Ev.bind hto (Ev.bind es (Ev.bind hto ?_))))
  simp only [ei, Option.bind_some, bne_self_eq_false, Bool.false_eq_true, if_false]
  refine Ev.bind hto (Ev.bind eq ?_)
  simp only [if_true]
  exact Ev.now _

end Go.Proofs.Ytkoalnbcoggabaa.Pure
