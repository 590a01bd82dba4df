/- The law FnExactOfPairs answers true for every list of numbers. No condition. -/
import Derived.Test.YtbacmgbpjcnknaaSFnExactOfPairsx3
namespace Go.Proofs.Ytbacmgbpjcnknaa.Pure
open Go.RowKit Go.Proofs.Ytbacmgbpjcnknaa.SFnExactOfPairs Go.Proofs.YtbacmgbpjcnknaaW.PrintWords Go.Proofs.YtbacmgbpjcnknaaW.PrintLast Go.Proofs.YtbacmgbpjcnknaaW.PrintMore

theorem mark_loop : ∀ (d : Nat) (l : List Int) (m i : Nat), i + d = l.length → l.length ≤ 1100000 → m + d ≤ 1200000 →
    ∃ l', l'.length = l.length ∧ (∀ j, j < i → l'[j]? = l[j]?) ∧ (∀ j, i ≤ j → j < l.length → l'[j]? = some ((m + (j - i) : Nat) : Int)) ∧ Ev (fun k => laws_markIntS.l0 k l (m : Int) (i : Int)) (((m + d : Nat) : Int), l') := by
  intro d
  induction d with
  | zero =>
    intro l m i hi hlen hm
    refine ⟨l, rfl, fun _ _ => rfl, fun j h1 h2 => by omega, Ev.step (f := fun _ => some _) (fun k => ?_) (Ev.now _)⟩
    simp only [laws_markIntS.l0]
    rw [if_neg (by omega)]
    rfl
  | succ d ih =>
    intro l m i hi hlen hm
    obtain ⟨l', h1, h2, h3, h4⟩ := ih (l.set i (m : Int)) (m + 1) (i + 1) (by simp; omega) (by simpa using hlen) (by omega)
    have hw1 : wrap64 ((m : Int) + 1) = ((m + 1 : Nat) : Int) := by unfold wrap64; omega
    have hw2 : wrap64 ((i : Int) + 1) = ((i + 1 : Nat) : Int) := by unfold wrap64; omega
    refine ⟨l', by simpa using h1, ?_, ?_, ?_⟩
    · intro j hj
      rw [h2 j (by omega), List.getElem?_set_ne (by omega)]
    · intro j hj1 hj2
      by_cases hj : j = i
      · subst hj
        rw [h2 j (by omega), List.getElem?_set_self (by omega)]
        simp
      · rw [h3 j (by omega) (by simpa using hj2)]
        congr 2
        omega
    · have e : ((m + (d + 1) : Nat) : Int) = ((m + 1 + d : Nat) : Int) := by omega
      rw [e]
      refine Ev.step (fun k => ?_) h4
      simp only [laws_markIntS.l0]
      rw [if_pos (by omega), if_pos (by omega), hw1, hw2, Int.toNat_natCast]

theorem held_loop : ∀ (d : Nat) (l : List Int) (m i : Nat), i + d = l.length → l.length ≤ 1100000 → m + d ≤ 1200000 → (∀ j, i ≤ j → j < l.length → l[j]? = some ((m + (j - i) : Nat) : Int)) →
    Ev (fun k => laws_heldIntS.l0 k l (m : Int) (i : Int)) ((m + d : Nat) : Int) := by
  intro d
  induction d with
  | zero =>
    intro l m i hi hlen hm _
    refine Ev.step (f := fun _ => some _) (fun k => ?_) (Ev.now _)
    simp only [laws_heldIntS.l0]
    rw [if_neg (by omega)]
    rfl
  | succ d ih =>
    intro l m i hi hlen hm hl
    have hw1 : wrap64 ((m : Int) + 1) = ((m + 1 : Nat) : Int) := by unfold wrap64; omega
    have hw2 : wrap64 ((i : Int) + 1) = ((i + 1 : Nat) : Int) := by unfold wrap64; omega
    have h4 := ih l (m + 1) (i + 1) (by omega) hlen (by omega) (fun j h1 h2 => by rw [hl j (by omega) h2]; congr 2; omega)
    have e : ((m + (d + 1) : Nat) : Int) = ((m + 1 + d : Nat) : Int) := by omega
    rw [e]
    have hg : rd l (i : Int) = (m : Int) := by
      unfold rd
      rw [List.getD_eq_getElem?_getD, Int.toNat_natCast, hl i (by omega) (by omega)]
      simp
    refine Ev.step (fun k => ?_) h4
    simp only [laws_heldIntS.l0]
    rw [if_pos (by omega), if_pos (by omega), hw1, hw2, if_pos hg]

/-- what is marked is held -/
theorem marks_ev (l : List Int) (hl : l.length ≤ 1100000) : ∃ l', Ev (fun k => laws_markIntS.f k l 1) (((1 + l.length : Nat) : Int), l') ∧ Ev (fun k => laws_heldIntS.f k l' 1) ((1 + l.length : Nat) : Int) := by
  obtain ⟨l', h1, _, h3, h4⟩ := mark_loop l.length l 1 0 (by omega) hl (by omega)
  have h5 := held_loop l.length l' 1 0 (by omega) (by omega) (by omega) (fun j a b => h3 j a (by omega))
  exact ⟨l', h4, h5⟩

theorem eq_loop (l : List Int) (hl : l.length ≤ 2000000) : ∀ (d i : Nat), i + d = l.length → Ev (fun k => laws_eqIntS.l0 k l l (i : Int)) true := by
  intro d
  induction d with
  | zero =>
    intro i hi
    refine Ev.step (f := fun _ => some _) (fun k => ?_) (Ev.now _)
    simp only [laws_eqIntS.l0]
    rw [if_neg (by omega)]
  | succ d ih =>
    intro i hi
    have hw2 : wrap64 ((i : Int) + 1) = ((i + 1 : Nat) : Int) := by unfold wrap64; omega
    refine Ev.step (fun k => ?_) (ih (i + 1) (by omega))
    simp only [laws_eqIntS.l0]
    rw [if_pos (by omega), if_pos (by omega), if_pos (by omega), hw2]
    simp

theorem eq_ev (l : List Int) (hl : l.length ≤ 2000000) : Ev (fun k => laws_eqIntS.f k l l) true := by
  refine Ev.congr (fun k => ?_) (eq_loop l hl l.length 0 (by omega))
  unfold laws_eqIntS.f
  rw [if_pos rfl]
  rfl


theorem to_loop (l : List Int) (hl : l.length ≤ 2000000) : ∀ (d i : Nat) (x : List Int), i + d = l.length → x.length = l.length → (∀ j, j < i → x[j]? = l[j]?) → Ev (fun k => laws_toIntS.l0 k l x (i : Int)) l := by
  intro d
  induction d with
  | zero =>
    intro i x hi hx hj
    have e : x = l := by
      apply List.ext_getElem?
      intro j
      by_cases h : j < i
      · exact hj j h
      · rw [List.getElem?_eq_none (by omega), List.getElem?_eq_none (by omega)]
    subst e
    refine Ev.step (f := fun _ => some _) (fun k => ?_) (Ev.now _)
    simp only [laws_toIntS.l0]
    rw [if_neg (by omega)]
  | succ d ih =>
    intro i x hi hx hj
    have hw2 : wrap64 ((i : Int) + 1) = ((i + 1 : Nat) : Int) := by unfold wrap64; omega
    refine Ev.step (fun k => ?_) (ih (i + 1) (x.set i (rd l (i : Int))) (by omega) (by simpa using hx) ?_)
    · simp only [laws_toIntS.l0]
      rw [if_pos (by omega), if_pos (by omega), if_pos (by omega), hw2, Int.toNat_natCast]
    · intro j h
      by_cases he : j = i
      · subst he
        rw [List.getElem?_set_self (by omega)]
        unfold rd
        rw [List.getD_eq_getElem?_getD, Int.toNat_natCast, List.getElem?_eq_getElem (by omega)]
        simp
      · rw [List.getElem?_set_ne (by omega)]
        exact hj j (by omega)

theorem to_ev (l : List Int) (hl : l.length ≤ 2000000) : Ev (fun k => laws_toIntS.f k l) l := by
  refine Ev.congr (fun k => ?_) (to_loop l hl l.length 0 (List.replicate l.length 0) (by omega) (by simp) (fun j h => by omega))
  unfold laws_toIntS.f
  rw [if_pos (by omega), if_pos (by omega), Int.toNat_natCast]
  rfl


/-- a rune -/
def good (n : Int) : Bool := decide (0 ≤ n ∧ n ≤ 1114111) && !decide (55296 ≤ n ∧ n ≤ 57343)

theorem in_ev (a lo hi : Int) : spec_l1In.f a lo hi = some (decide (lo ≤ a ∧ a ≤ hi)) := by
  unfold spec_l1In.f
  by_cases h : a ≥ lo
  · rw [if_pos h]; congr 1; simp; omega
  · rw [if_neg h]; congr 1; simp; omega
theorem good_ev (n : Int) : spec_GoodRune.f n = some (good n) := by
  unfold spec_GoodRune.f good
  simp only [in_ev, Option.bind_some]
  by_cases h : 0 ≤ n ∧ n ≤ 1114111
  · simp only [h, and_self, decide_true, if_true, Bool.true_and]
  · simp only [h, decide_false, Bool.false_eq_true, if_false, Bool.false_and]

theorem all_loop (l : List Int) (hl : l.length ≤ 2000000) : ∀ (d i : Nat), i + d = l.length → Ev (fun k => spec_l2All.l0 k l l (l.length : Int) (i : Int)) ((l.drop i).all good && decide (l.length ≤ 60)) := by
  intro d
  induction d with
  | zero =>
    intro i hi
    have e : l.drop i = [] := List.drop_eq_nil_of_le (by omega)
    rw [e]
    refine Ev.step (f := fun _ => some _) (fun k => ?_) (Ev.now _)
    simp only [spec_l2All.l0]
    rw [if_neg (by omega)]
    congr 1
    simp
    omega
  | succ d ih =>
    intro i hi
    have hw2 : wrap64 ((i : Int) + 1) = ((i + 1 : Nat) : Int) := by unfold wrap64; omega
    have hd : l.drop i = rd l (i : Int) :: l.drop (i + 1) := by
      rw [List.drop_eq_getElem_cons (by omega)]
      congr 1
      unfold rd
      rw [List.getD_eq_getElem?_getD, Int.toNat_natCast, List.getElem?_eq_getElem (by omega)]
      simp
    rw [hd, List.all_cons]
    cases hg : good (rd l (i : Int)) with
    | true =>
      rw [Bool.true_and]
      refine Ev.step (fun k => ?_) (ih (i + 1) (by omega))
      simp only [spec_l2All.l0]
      rw [if_pos (by omega), if_pos (by omega), if_pos (by omega), good_ev, hg, hw2]
      simp
    | false =>
      rw [Bool.false_and, Bool.false_and]
      refine Ev.step (f := fun _ => some _) (fun k => ?_) (Ev.now _)
      simp only [spec_l2All.l0]
      rw [if_pos (by omega), if_pos (by omega), if_pos (by omega), good_ev, hg]
      simp

theorem all_ev (l : List Int) (hl : l.length ≤ 2000000) : Ev (fun k => spec_l2All.f k l) (l.all good && decide (l.length ≤ 60)) := by
  have h := all_loop l hl l.length 0 (by omega)
  exact h


theorem within_ev (a lo hi : Int) : impl_within.f a lo hi = some (decide (lo ≤ a ∧ a ≤ hi)) := in_ev a lo hi
theorem rune_ev (n : Int) : impl_isRune.f n = some (good n) := good_ev n

theorem pairs_loop (l : List Int) (hl : l.length ≤ 120) : ∀ (t i : Nat) (acc : List Int), i ≤ l.length → l.length ≤ i + t → acc.length ≤ i →
    ∃ r : List Int × Bool, r.1.length ≤ 120 ∧ Ev (fun k => spec_OfPairs.l0 k l acc (i : Int)) r ∧ (acc.all good = true → Ev (fun k => impl_OfPairs.l0 k l acc (i : Int)) r) ∧ (acc.all good = false → r = ([], false)) := by
  intro t
  induction t using Nat.strongRecOn with
  | _ t ih =>
    intro i acc hi ht ha
    by_cases hlt : i < l.length
    · have hw1 : wrap64 ((i : Int) + 1) = ((i + 1 : Nat) : Int) := by unfold wrap64; omega
      have hw2 : wrap64 (((i + 1 : Nat) : Int) + 1) = ((i + 2 : Nat) : Int) := by unfold wrap64; omega
      have c1 : (i : Int) < (l.length : Int) := by omega
      have c2 : (0 : Int) ≤ (i : Int) := by omega
      have c3 : (0 : Int) ≤ ((i + 1 : Nat) : Int) := by omega
      have c4 : acc.length < 17592186044416 := by omega
      generalize hn : rd l (i : Int) = n
      generalize hm : rd l ((i + 1 : Nat) : Int) = m
      by_cases hp : (55296 ≤ n ∧ n ≤ 56319) ∧ i + 1 < l.length ∧ (56320 ≤ m ∧ m ≤ 57343)
      · -- a pair
        obtain ⟨p1, p2, p3⟩ := hp
        have c5 : ((i + 1 : Nat) : Int) < (l.length : Int) := by omega
        generalize hv : wrap64 (wrap64 (wrap64 (65536 + wrap64 (wrap64 (n - 55296) * 1024)) + m) - 56320) = v
        have hvg : good v = true := by
          have e : v = 65536 + (n - 55296) * 1024 + m - 56320 := by rw [← hv]; unfold wrap64; omega
          unfold good
          rw [decide_eq_true (by omega), decide_eq_false (by omega)]
          rfl
        obtain ⟨r, h1, h2, h3, h4⟩ := ih (t - 2) (by omega) (i + 2) (acc ++ [v]) (by omega) (by omega) (by simp; omega)
        have hall : (acc ++ [v]).all good = acc.all good := by rw [List.all_append]; simp [hvg]
        rw [hall] at h3 h4
        refine ⟨r, h1, Ev.step (f := fun k => spec_OfPairs.j1 k l acc (i : Int) n true) (fun k => ?_) (Ev.step (fun k => ?_) h2), fun hg => Ev.step (f := fun k => impl_OfPairs.j1 k l acc (i : Int) n true) (fun k => ?_) (Ev.step (fun k => ?_) (h3 hg)), h4⟩
        · simp only [spec_OfPairs.l0, in_ev, hn, hw1, hm]
          rw [if_pos c1, if_pos c2]
          simp only [p1, p3, and_self, decide_true, Option.bind_some, if_true]
          rw [if_pos c5, if_pos c3]
        · simp only [spec_OfPairs.j1, hw1, hm, hv, hw2]
          rw [if_pos trivial, if_pos c3, if_pos c5, if_pos c4]
        · simp only [impl_OfPairs.l0, within_ev, hn, hw1, hm]
          rw [if_pos c1, if_pos c2]
          simp only [p1, p3, and_self, decide_true, Option.bind_some, if_true]
          rw [if_pos c5, if_pos c3]
        · simp only [impl_OfPairs.j1, hw1, hm, hv, hw2]
          rw [if_pos trivial, if_pos c3, if_pos c5, if_pos c4]
      · -- no pair: both come to the other arm
        have hs : ∀ k, spec_OfPairs.l0 (k + 1) l acc (i : Int) = spec_OfPairs.j1 k l acc (i : Int) n false := by
          intro k
          simp only [spec_OfPairs.l0, in_ev, hn, hw1, hm]
          rw [if_pos c1, if_pos c2]
          by_cases p1 : 55296 ≤ n ∧ n ≤ 56319
          · simp only [p1, and_self, decide_true, Option.bind_some, if_true]
            by_cases p2 : i + 1 < l.length
            · have p3 : ¬ (56320 ≤ m ∧ m ≤ 57343) := fun h => hp ⟨p1, p2, h⟩
              rw [if_pos (by omega), if_pos c3]
              simp only [p3, decide_false]
            · rw [if_neg (by omega)]
          · simp only [p1, decide_false, Option.bind_some, Bool.false_eq_true, if_false]
        have hi' : ∀ k, impl_OfPairs.l0 (k + 1) l acc (i : Int) = impl_OfPairs.j1 k l acc (i : Int) n false := by
          intro k
          simp only [impl_OfPairs.l0, within_ev, hn, hw1, hm]
          rw [if_pos c1, if_pos c2]
          by_cases p1 : 55296 ≤ n ∧ n ≤ 56319
          · simp only [p1, and_self, decide_true, Option.bind_some, if_true]
            by_cases p2 : i + 1 < l.length
            · have p3 : ¬ (56320 ≤ m ∧ m ≤ 57343) := fun h => hp ⟨p1, p2, h⟩
              rw [if_pos (by omega), if_pos c3]
              simp only [p3, decide_false]
            · rw [if_neg (by omega)]
          · simp only [p1, decide_false, Option.bind_some, Bool.false_eq_true, if_false]
        by_cases hr : 0 ≤ n ∧ n ≤ 65535
        · obtain ⟨r, h1, h2, h3, h4⟩ := ih (t - 1) (by omega) (i + 1) (acc ++ [n]) (by omega) (by omega) (by simp; omega)
          have hs2 : Ev (fun k => spec_OfPairs.l0 k l acc (i : Int)) r := by
            refine Ev.step hs (Ev.step (fun k => ?_) h2)
            simp only [spec_OfPairs.j1, in_ev, hr, and_self, decide_true, Option.bind_some, Bool.false_eq_true, if_false, if_true]
            rw [if_pos c4, hw1]
          cases hg : good n with
          | true =>
            have hall : (acc ++ [n]).all good = acc.all good := by rw [List.all_append]; simp [hg]
            rw [hall] at h3 h4
            refine ⟨r, h1, hs2, fun hgg => Ev.step hi' (Ev.step (fun k => ?_) (h3 hgg)), h4⟩
            simp only [impl_OfPairs.j1, rune_ev, hg, Option.bind_some, Bool.false_eq_true, if_false, if_true]
            rw [if_neg (by omega), if_pos c4, hw1]
          | false =>
            have hall : (acc ++ [n]).all good = false := by rw [List.all_append]; simp [hg]
            obtain rfl := h4 hall
            refine ⟨([], false), h1, hs2, fun hgg => Ev.step hi' (Ev.step (f := fun _ => some _) (fun k => ?_) (Ev.now _)), fun _ => rfl⟩
            simp only [impl_OfPairs.j1, rune_ev, hg, Option.bind_some, Bool.false_eq_true, if_false]
        · refine ⟨([], false), by simp, Ev.step hs (Ev.step (f := fun _ => some _) (fun k => ?_) (Ev.now _)), fun hgg => Ev.step hi' (Ev.step (f := fun _ => some _) (fun k => ?_) (Ev.now _)), fun _ => rfl⟩
          · simp only [spec_OfPairs.j1, in_ev, hr, decide_false, Option.bind_some, Bool.false_eq_true, if_false]
          · simp only [impl_OfPairs.j1, rune_ev, Option.bind_some, Bool.false_eq_true, if_false]
            cases hg : good n with
            | false => simp
            | true =>
              have h0 : 0 ≤ n := by
                unfold good at hg
                simp at hg
                omega
              simp only [if_true]
              rw [if_pos (by omega)]
    · -- the end
      have hend := all_ev acc (by omega)
      have hs : Ev (fun k => spec_OfPairs.l0 k l acc (i : Int)) (if (acc.all good && decide (acc.length ≤ 60)) = true then (acc, true) else ([], false)) := by
        refine Ev.step (f := fun k => (spec_l2All.f k acc).bind fun t114 => if t114 = true then some (acc, true) else some ([], false)) (fun k => ?_) (Ev.bind hend ?_)
        · simp only [spec_OfPairs.l0]
          rw [if_neg (by omega)]
        · cases (acc.all good && decide (acc.length ≤ 60)) with
          | true => simp only [if_true]; exact Ev.now _
          | false => simp only [Bool.false_eq_true, if_false]; exact Ev.now _
      refine ⟨_, ?_, hs, ?_, ?_⟩
      · split
        · show acc.length ≤ 120
          omega
        · simp
      · intro hg
        rw [hg, Bool.true_and]
        by_cases h60 : acc.length ≤ 60
        · rw [decide_eq_true h60, if_pos rfl]
          refine Ev.step (f := fun _ => some _) (fun k => ?_) (Ev.now _)
          simp only [impl_OfPairs.l0]
          rw [if_neg (by omega), if_neg (by omega)]
        · rw [decide_eq_false h60, if_neg (by simp)]
          refine Ev.step (f := fun _ => some _) (fun k => ?_) (Ev.now _)
          simp only [impl_OfPairs.l0]
          rw [if_neg (by omega), if_pos (by omega)]
      · intro hg
        rw [hg, Bool.false_and, if_neg (by simp)]

theorem both_ev (l : List Int) : ∃ r : List Int × Bool, r.1.length ≤ 120 ∧ Ev (fun k => spec_OfPairs.f k l) r ∧ Ev (fun k => impl_OfPairs.f k l) r := by
  unfold spec_OfPairs.f impl_OfPairs.f
  by_cases h : (l.length : Int) > 120
  · simp only [if_pos h]
    exact ⟨_, by simp, Ev.now _, Ev.now _⟩
  · simp only [if_neg h]
    obtain ⟨r, h1, h2, h3, _⟩ := pairs_loop l (by omega) l.length 0 [] (by omega) (by omega) (by simp)
    exact ⟨r, h1, h2, h3 rfl⟩

theorem FnExactOfPairs : laws_FnExactOfPairs.Pure := by
  intro l _ _ _
  by_cases h : (l.length : Int) > 1048576
  · exact ⟨0, by unfold laws_FnExactOfPairs.f; rw [if_pos h]⟩
  obtain ⟨⟨r, b⟩, hl, hs, hi⟩ := both_ev l
  replace hl : r.length ≤ 120 := hl
  have ht := to_ev l (by omega)
  have he := eq_ev r (by omega)
  have hel := eq_ev l (by omega)
  obtain ⟨r', hmr, hhr⟩ := marks_ev r (by omega)
  obtain ⟨ml, hml, _⟩ := marks_ev l (by omega)
  refine Ev.rounds (Ev.congr (fun k => by unfold laws_FnExactOfPairs.f; rw [if_neg h]) (Ev.bind ht (Ev.bind hs (Ev.bind ht (Ev.bind hi (Ev.bind he ?_))))))
  simp only [if_true, bne_self_eq_false]
  refine Ev.step (fun k => by rw [laws_FnExactOfPairs.j0, if_neg (by simp)]) (Ev.bind ht (Ev.bind hel ?_))
  simp only [if_true]
  refine Ev.bind hml ?_
  have hneg : ∀ n : Nat, ¬ (((1 + n : Nat) : Int) < 0) := fun n => by omega
  simp only [if_neg (hneg _)]
  refine Ev.bind he ?_
  simp only [if_true, bne_self_eq_false]
  refine Ev.step (fun k => by rw [laws_FnExactOfPairs.j1, if_neg (by simp)]) (Ev.bind hmr (Ev.bind hhr ?_))
  simp only [if_neg (hneg _), if_true]
  refine Ev.bind ht (Ev.bind hi (Ev.bind he ?_))
  simp only [if_true, bne_self_eq_false]
  refine Ev.step (fun k => by rw [laws_FnExactOfPairs.j2, if_neg (by simp)]) (Ev.bind hhr ?_)
  simp only [if_neg (hneg _), if_true]
  exact Ev.now _

end Go.Proofs.Ytbacmgbpjcnknaa.Pure
