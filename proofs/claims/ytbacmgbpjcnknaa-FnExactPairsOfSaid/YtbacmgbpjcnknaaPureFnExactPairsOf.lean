/- The law FnExactPairsOf answers true for every list of numbers. No condition. -/
import Derived.Test.YtbacmgbpjcnknaaSFnExactPairsOfx3
namespace Go.Proofs.Ytbacmgbpjcnknaa.Pure
open Go.RowKit Go.Proofs.Ytbacmgbpjcnknaa.SFnExactPairsOf Go.Proofs.YtbacmgbpjcnknaaW.PrintWords Go.Proofs.YtbacmgbpjcnknaaW.PrintLast Go.Proofs.YtbacmgbpjcnknaaW.PrintMore

theorem mark_loop : ∀ (d : Nat) (l : List Int) (m i : Nat), i + d = l.length → l.length ≤ 1100000 → m + d ≤ 1200000 →
    ∃ l', l'.length = l.length ∧ (∀ j, j < i → l'[j]? = l[j]?) ∧ (∀ j, i ≤ j → j < l.length → l'[j]? = some ((m + (j - i) : Nat) : Int)) ∧ Ev (fun k => laws_markIntS.l0 k l (m : Int) (i : Int)) (((m + d : Nat) : Int), l') := by
  intro d
  induction d with
  | zero =>
    intro l m i hi hlen hm
    refine ⟨l, rfl, fun _ _ => rfl, fun j h1 h2 => by omega, Ev.step (f := fun _ => some _) (fun k => ?_) (Ev.now _)⟩
    simp only [laws_markIntS.l0]
    rw [if_neg (by omega)]
    rfl
  | succ d ih =>
    intro l m i hi hlen hm
    obtain ⟨l', h1, h2, h3, h4⟩ := ih (l.set i (m : Int)) (m + 1) (i + 1) (by simp; omega) (by simpa using hlen) (by omega)
    have hw1 : wrap64 ((m : Int) + 1) = ((m + 1 : Nat) : Int) := by unfold wrap64; omega
    have hw2 : wrap64 ((i : Int) + 1) = ((i + 1 : Nat) : Int) := by unfold wrap64; omega
    refine ⟨l', by simpa using h1, ?_, ?_, ?_⟩
    · intro j hj
      rw [h2 j (by omega), List.getElem?_set_ne (by omega)]
    · intro j hj1 hj2
      by_cases hj : j = i
      · subst hj
        rw [h2 j (by omega), List.getElem?_set_self (by omega)]
        simp
      · rw [h3 j (by omega) (by simpa using hj2)]
        congr 2
        omega
    · have e : ((m + (d + 1) : Nat) : Int) = ((m + 1 + d : Nat) : Int) := by omega
      rw [e]
      refine Ev.step (fun k => ?_) h4
      simp only [laws_markIntS.l0]
      rw [if_pos (by omega), if_pos (by omega), hw1, hw2, Int.toNat_natCast]

theorem held_loop : ∀ (d : Nat) (l : List Int) (m i : Nat), i + d = l.length → l.length ≤ 1100000 → m + d ≤ 1200000 → (∀ j, i ≤ j → j < l.length → l[j]? = some ((m + (j - i) : Nat) : Int)) →
    Ev (fun k => laws_heldIntS.l0 k l (m : Int) (i : Int)) ((m + d : Nat) : Int) := by
  intro d
  induction d with
  | zero =>
    intro l m i hi hlen hm _
    refine Ev.step (f := fun _ => some _) (fun k => ?_) (Ev.now _)
    simp only [laws_heldIntS.l0]
    rw [if_neg (by omega)]
    rfl
  | succ d ih =>
    intro l m i hi hlen hm hl
    have hw1 : wrap64 ((m : Int) + 1) = ((m + 1 : Nat) : Int) := by unfold wrap64; omega
    have hw2 : wrap64 ((i : Int) + 1) = ((i + 1 : Nat) : Int) := by unfold wrap64; omega
    have h4 := ih l (m + 1) (i + 1) (by omega) hlen (by omega) (fun j h1 h2 => by rw [hl j (by omega) h2]; congr 2; omega)
    have e : ((m + (d + 1) : Nat) : Int) = ((m + 1 + d : Nat) : Int) := by omega
    rw [e]
    have hg : rd l (i : Int) = (m : Int) := by
      unfold rd
      rw [List.getD_eq_getElem?_getD, Int.toNat_natCast, hl i (by omega) (by omega)]
      simp
    refine Ev.step (fun k => ?_) h4
    simp only [laws_heldIntS.l0]
    rw [if_pos (by omega), if_pos (by omega), hw1, hw2, if_pos hg]

/-- what is marked is held -/
theorem marks_ev (l : List Int) (hl : l.length ≤ 1100000) : ∃ l', Ev (fun k => laws_markIntS.f k l 1) (((1 + l.length : Nat) : Int), l') ∧ Ev (fun k => laws_heldIntS.f k l' 1) ((1 + l.length : Nat) : Int) := by
  obtain ⟨l', h1, _, h3, h4⟩ := mark_loop l.length l 1 0 (by omega) hl (by omega)
  have h5 := held_loop l.length l' 1 0 (by omega) (by omega) (by omega) (fun j a b => h3 j a (by omega))
  exact ⟨l', h4, h5⟩

theorem eq_loop (l : List Int) (hl : l.length ≤ 2000000) : ∀ (d i : Nat), i + d = l.length → Ev (fun k => laws_eqIntS.l0 k l l (i : Int)) true := by
  intro d
  induction d with
  | zero =>
    intro i hi
    refine Ev.step (f := fun _ => some _) (fun k => ?_) (Ev.now _)
    simp only [laws_eqIntS.l0]
    rw [if_neg (by omega)]
  | succ d ih =>
    intro i hi
    have hw2 : wrap64 ((i : Int) + 1) = ((i + 1 : Nat) : Int) := by unfold wrap64; omega
    refine Ev.step (fun k => ?_) (ih (i + 1) (by omega))
    simp only [laws_eqIntS.l0]
    rw [if_pos (by omega), if_pos (by omega), if_pos (by omega), hw2]
    simp

theorem eq_ev (l : List Int) (hl : l.length ≤ 2000000) : Ev (fun k => laws_eqIntS.f k l l) true := by
  refine Ev.congr (fun k => ?_) (eq_loop l hl l.length 0 (by omega))
  unfold laws_eqIntS.f
  rw [if_pos rfl]
  rfl


theorem to_loop (l : List Int) (hl : l.length ≤ 2000000) : ∀ (d i : Nat) (x : List Int), i + d = l.length → x.length = l.length → (∀ j, j < i → x[j]? = l[j]?) → Ev (fun k => laws_toIntS.l0 k l x (i : Int)) l := by
  intro d
  induction d with
  | zero =>
    intro i x hi hx hj
    have e : x = l := by
      apply List.ext_getElem?
      intro j
      by_cases h : j < i
      · exact hj j h
      · rw [List.getElem?_eq_none (by omega), List.getElem?_eq_none (by omega)]
    subst e
    refine Ev.step (f := fun _ => some _) (fun k => ?_) (Ev.now _)
    simp only [laws_toIntS.l0]
    rw [if_neg (by omega)]
  | succ d ih =>
    intro i x hi hx hj
    have hw2 : wrap64 ((i : Int) + 1) = ((i + 1 : Nat) : Int) := by unfold wrap64; omega
    refine Ev.step (fun k => ?_) (ih (i + 1) (x.set i (rd l (i : Int))) (by omega) (by simpa using hx) ?_)
    · simp only [laws_toIntS.l0]
      rw [if_pos (by omega), if_pos (by omega), if_pos (by omega), hw2, Int.toNat_natCast]
    · intro j h
      by_cases he : j = i
      · subst he
        rw [List.getElem?_set_self (by omega)]
        unfold rd
        rw [List.getD_eq_getElem?_getD, Int.toNat_natCast, List.getElem?_eq_getElem (by omega)]
        simp
      · rw [List.getElem?_set_ne (by omega)]
        exact hj j (by omega)

theorem to_ev (l : List Int) (hl : l.length ≤ 2000000) : Ev (fun k => laws_toIntS.f k l) l := by
  refine Ev.congr (fun k => ?_) (to_loop l hl l.length 0 (List.replicate l.length 0) (by omega) (by simp) (fun j h => by omega))
  unfold laws_toIntS.f
  rw [if_pos (by omega), if_pos (by omega), Int.toNat_natCast]
  rfl


/-- a rune -/
def good (n : Int) : Bool := decide (0 ≤ n ∧ n ≤ 1114111) && !decide (55296 ≤ n ∧ n ≤ 57343)

theorem in_ev (a lo hi : Int) : spec_l1In.f a lo hi = some (decide (lo ≤ a ∧ a ≤ hi)) := by
  unfold spec_l1In.f
  by_cases h : a ≥ lo
  · rw [if_pos h]; congr 1; simp; omega
  · rw [if_neg h]; congr 1; simp; omega
theorem good_ev (n : Int) : spec_GoodRune.f n = some (good n) := by
  unfold spec_GoodRune.f good
  simp only [in_ev, Option.bind_some]
  by_cases h : 0 ≤ n ∧ n ≤ 1114111
  · simp only [h, and_self, decide_true, if_true, Bool.true_and]
  · simp only [h, decide_false, Bool.false_eq_true, if_false, Bool.false_and]

theorem all_loop (l : List Int) (hl : l.length ≤ 2000000) : ∀ (d i : Nat), i + d = l.length → Ev (fun k => spec_l2All.l0 k l l (l.length : Int) (i : Int)) ((l.drop i).all good && decide (l.length ≤ 60)) := by
  intro d
  induction d with
  | zero =>
    intro i hi
    have e : l.drop i = [] := List.drop_eq_nil_of_le (by omega)
    rw [e]
    refine Ev.step (f := fun _ => some _) (fun k => ?_) (Ev.now _)
    simp only [spec_l2All.l0]
    rw [if_neg (by omega)]
    congr 1
    simp
    omega
  | succ d ih =>
    intro i hi
    have hw2 : wrap64 ((i : Int) + 1) = ((i + 1 : Nat) : Int) := by unfold wrap64; omega
    have hd : l.drop i = rd l (i : Int) :: l.drop (i + 1) := by
      rw [List.drop_eq_getElem_cons (by omega)]
      congr 1
      unfold rd
      rw [List.getD_eq_getElem?_getD, Int.toNat_natCast, List.getElem?_eq_getElem (by omega)]
      simp
    rw [hd, List.all_cons]
    cases hg : good (rd l (i : Int)) with
    | true =>
      rw [Bool.true_and]
      refine Ev.step (fun k => ?_) (ih (i + 1) (by omega))
      simp only [spec_l2All.l0]
      rw [if_pos (by omega), if_pos (by omega), if_pos (by omega), good_ev, hg, hw2]
      simp
    | false =>
      rw [Bool.false_and, Bool.false_and]
      refine Ev.step (f := fun _ => some _) (fun k => ?_) (Ev.now _)
      simp only [spec_l2All.l0]
      rw [if_pos (by omega), if_pos (by omega), if_pos (by omega), good_ev, hg]
      simp

theorem all_ev (l : List Int) (hl : l.length ≤ 2000000) : Ev (fun k => spec_l2All.f k l) (l.all good && decide (l.length ≤ 60)) := by
  have h := all_loop l hl l.length 0 (by omega)
  exact h


theorem pairs_same : ∀ (k : Nat) (a b : List Int) (n i : Int), impl_pairsOf.l0 k a b n i = spec_l2Pairs.l0 k a b n i := by
  intro k
  induction k with
  | zero => intro a b n i; rfl
  | succ k ih => intro a b n i; simp only [impl_pairsOf.l0, spec_l2Pairs.l0, ih]

theorem pairs_loop (l : List Int) (hl : l.length ≤ 2000000) : ∀ (d i : Nat) (a : List Int), i + d = l.length → a.length ≤ 2 * i → ∃ r : List Int, r.length ≤ 2 * l.length ∧ Ev (fun k => spec_l2Pairs.l0 k a l (l.length : Int) (i : Int)) r := by
  intro d
  induction d with
  | zero =>
    intro i a hi ha
    refine ⟨a, by omega, Ev.step (f := fun _ => some _) (fun k => ?_) (Ev.now _)⟩
    simp only [spec_l2Pairs.l0]
    rw [if_neg (by omega)]
  | succ d ih =>
    intro i a hi ha
    have c1 : (i : Int) < (l.length : Int) := by omega
    have c2 : (0 : Int) ≤ (i : Int) := by omega
    have hw : wrap64 ((i : Int) + 1) = ((i + 1 : Nat) : Int) := by unfold wrap64; omega
    have hlen : a.length < 17592186044416 := by omega
    by_cases h : rd l (i : Int) < 65536
    · obtain ⟨r, hr, hs⟩ := ih (i + 1) (a ++ [rd l (i : Int)]) (by omega) (by simp; omega)
      refine ⟨r, hr, Ev.step (fun k => ?_) hs⟩
      simp only [spec_l2Pairs.l0]
      rw [if_pos c1, if_pos c2, if_pos c1, if_pos h, if_pos hlen, hw]
    · obtain ⟨r, hr, hs⟩ := ih (i + 1) (a ++ [wrap64 (55296 + ((wrap64 ((rd l (i : Int)) - 65536)) / 1024)), wrap64 (56320 + (Go.bits .and .i64 (wrap64 ((rd l (i : Int)) - 65536)) 1023))]) (by omega) (by simp; omega)
      refine ⟨r, hr, Ev.step (fun k => ?_) hs⟩
      simp only [spec_l2Pairs.l0]
      rw [if_pos c1, if_pos c2, if_pos c1, if_neg h, Option.bind_some, if_pos (by simp; omega), hw]

theorem pairs_ev (l : List Int) (hl : l.length ≤ 2000000) : ∃ r : List Int, r.length ≤ 2 * l.length ∧ Ev (fun k => spec_l2Pairs.f k l) r ∧ Ev (fun k => impl_pairsOf.f k l) r := by
  obtain ⟨r, hr, hs⟩ := pairs_loop l hl l.length 0 [] (by omega) (by simp)
  refine ⟨r, hr, hs, Ev.congr (fun k => ?_) hs⟩
  unfold impl_pairsOf.f
  rw [pairs_same]
  rfl


theorem bad_all (l : List Int) : bad l = !(l.all good) := by
  unfold bad
  rw [List.not_all_eq_any_not]
  rfl

theorem both_ev (l : List Int) (hl : l.length ≤ 2000000) : ∃ r : List Int × Bool, r.1.length ≤ 120 ∧ Ev (fun k => spec_PairsOf.f k l) r ∧ Ev (fun k => impl_PairsOf.f k l) r := by
  unfold spec_PairsOf.f impl_PairsOf.f
  have ha := all_ev l hl
  by_cases h : l.length ≤ 60
  · simp only [if_neg (show ¬ (l.length : Int) > 60 by omega)]
    rw [decide_eq_true h, Bool.and_true] at ha
    cases hall : l.all good with
    | true =>
      rw [hall] at ha
      obtain ⟨r, hr, h1, h2⟩ := pairs_ev l hl
      have hb : ¬ bad l = true := by rw [bad_all, hall]; simp
      refine ⟨(r, true), by show r.length ≤ 120; omega, Ev.bind ha ?_, ?_⟩
      · simp only [if_true]
        exact Ev.bind h1 (Ev.now _)
      · simp only [if_neg hb]
        exact Ev.bind h2 (Ev.now _)
    | false =>
      rw [hall] at ha
      have hb : bad l = true := by rw [bad_all, hall]; rfl
      refine ⟨([], false), by simp, Ev.bind ha ?_, ?_⟩
      · simp only [Bool.false_eq_true, if_false]
        exact Ev.now _
      · simp only [if_pos hb]
        exact Ev.now _
  · simp only [if_pos (show (l.length : Int) > 60 by omega)]
    rw [decide_eq_false h, Bool.and_false] at ha
    refine ⟨([], false), by simp, Ev.bind ha ?_, Ev.now _⟩
    simp only [Bool.false_eq_true, if_false]
    exact Ev.now _

theorem FnExactPairsOf : laws_FnExactPairsOf.Pure := by
  intro l _ _ _
  by_cases h : (l.length : Int) > 1048576
  · exact ⟨0, by unfold laws_FnExactPairsOf.f; rw [if_pos h]⟩
  obtain ⟨⟨r, b⟩, hl, hs, hi⟩ := both_ev l (by omega)
  replace hl : r.length ≤ 120 := hl
  have ht := to_ev l (by omega)
  have he := eq_ev r (by omega)
  have hel := eq_ev l (by omega)
  obtain ⟨r', hmr, hhr⟩ := marks_ev r (by omega)
  obtain ⟨ml, hml, _⟩ := marks_ev l (by omega)
  refine Ev.rounds (Ev.congr (fun k => by unfold laws_FnExactPairsOf.f; rw [if_neg h]) (Ev.bind ht (Ev.bind hs (Ev.bind ht (Ev.bind hi (Ev.bind he ?_))))))
  simp only [if_true, bne_self_eq_false]
  refine Ev.step (fun k => by rw [laws_FnExactPairsOf.j0, if_neg (by simp)]) (Ev.bind ht (Ev.bind hel ?_))
  simp only [if_true]
  refine Ev.bind hml ?_
  have hneg : ∀ n : Nat, ¬ (((1 + n : Nat) : Int) < 0) := fun n => by omega
  simp only [if_neg (hneg _)]
  refine Ev.bind he ?_
  simp only [if_true, bne_self_eq_false]
  refine Ev.step (fun k => by rw [laws_FnExactPairsOf.j1, if_neg (by simp)]) (Ev.bind hmr (Ev.bind hhr ?_))
  simp only [if_neg (hneg _), if_true]
  refine Ev.bind ht (Ev.bind hi (Ev.bind he ?_))
  simp only [if_true, bne_self_eq_false]
  refine Ev.step (fun k => by rw [laws_FnExactPairsOf.j2, if_neg (by simp)]) (Ev.bind hhr ?_)
  simp only [if_neg (hneg _), if_true]
  exact Ev.now _

end Go.Proofs.Ytbacmgbpjcnknaa.Pure
