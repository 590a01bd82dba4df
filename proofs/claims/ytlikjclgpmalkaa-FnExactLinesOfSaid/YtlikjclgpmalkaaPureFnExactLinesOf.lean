/- The law FnExactLinesOf answers true for every string and every width. No condition. -/
import Derived.Test.YtlikjclgpmalkaaSFnExactLinesOfx2
import Derived.Lib.Strings
namespace Go.Proofs.Ytlikjclgpmalkaa.Pure
open Go.RowKit Go.Proofs.Ytlikjclgpmalkaa.SFnExactLinesOf Go.Proofs.YtlikjclgpmalkaaW.PrintWords Go.Proofs.YtlikjclgpmalkaaW.PrintLast Go.Proofs.YtlikjclgpmalkaaW.PrintMore

theorem mark_text_loop : ∀ (n : Nat), n ≤ 1000000 → ∀ s : ByteArray, s.size + n ≤ 2000000 → ∃ t, Ev (fun k => laws_markText.l0 k (n : Int) s) t := by
  intro n
  induction n using Nat.strongRecOn with
  | _ n ih =>
    intro hn s hs
    by_cases h0 : n = 0
    · subst h0
      refine ⟨(⟨#[109]⟩ : ByteArray) ++ s, Ev.step (f := fun _ => some _) (fun k => ?_) (Ev.now _)⟩
      simp only [laws_markText.l0]
      rw [if_neg (by omega), if_pos (by omega)]
    · have hdiv : wrap64 (Int.tdiv (n : Int) 10) = ((n / 10 : Nat) : Int) := by
        rw [Int.tdiv_eq_ediv_of_nonneg (by omega)]
        unfold wrap64
        omega
      obtain ⟨t, ht⟩ := ih (n / 10) (by omega) (by omega) (strOfNums [(wrap64 (48 + Int.tmod (n : Int) 10)) % 256] ++ s) (by
        rw [ByteArray.size_append, strOfNums_size]
        simp
        omega)
      refine ⟨t, Ev.step (fun k => ?_) ht⟩
      simp only [laws_markText.l0, Option.bind_some, strOfNums_size, List.length_cons, List.length_nil]
      rw [if_pos (by omega), if_pos (by omega), hdiv]

theorem mark_text_ev (n : Nat) (h0 : 0 < n) (hn : n ≤ 1000000) : ∃ t, Ev (fun k => laws_markText.f k (n : Int)) t := by
  obtain ⟨t, ht⟩ := mark_text_loop n hn (⟨#[]⟩ : ByteArray) (by show 0 + n ≤ _; omega)
  refine ⟨t, Ev.congr (fun k => ?_) ht⟩
  unfold laws_markText.f
  rw [if_neg (by omega)]

noncomputable def mt (n : Nat) : ByteArray := Classical.epsilon (fun t => Ev (fun k => laws_markText.f k (n : Int)) t)
theorem mt_ev (n : Nat) (h0 : 0 < n) (hn : n ≤ 1000000) : Ev (fun k => laws_markText.f k (n : Int)) (mt n) := Classical.epsilon_spec (mark_text_ev n h0 hn)

theorem mark_loop : ∀ (d : Nat) (l : List ByteArray) (m i : Nat), i + d = l.length → l.length ≤ 900000 → 0 < m → m + d ≤ 1000000 →
    ∃ l', l'.length = l.length ∧ (∀ j, j < i → l'[j]? = l[j]?) ∧ (∀ j, i ≤ j → j < l.length → l'[j]? = some (mt (m + (j - i)))) ∧ Ev (fun k => laws_markStringS.l0 k l (m : Int) (i : Int)) (((m + d : Nat) : Int), l') := by
  intro d
  induction d with
  | zero =>
    intro l m i hi hlen h0 hm
    refine ⟨l, rfl, fun _ _ => rfl, fun j h1 h2 => by omega, Ev.step (f := fun _ => some _) (fun k => ?_) (Ev.now _)⟩
    simp only [laws_markStringS.l0]
    rw [if_neg (by omega)]
    rfl
  | succ d ih =>
    intro l m i hi hlen h0 hm
    obtain ⟨l', h1, h2, h3, h4⟩ := ih (l.set i (mt m)) (m + 1) (i + 1) (by simp; omega) (by simpa using hlen) (by omega) (by omega)
    have hw1 : wrap64 ((m : Int) + 1) = ((m + 1 : Nat) : Int) := by unfold wrap64; omega
    have hw2 : wrap64 ((i : Int) + 1) = ((i + 1 : Nat) : Int) := by unfold wrap64; omega
    refine ⟨l', by simpa using h1, ?_, ?_, ?_⟩
    · intro j hj
      rw [h2 j (by omega), List.getElem?_set_ne (by omega)]
    · intro j hj1 hj2
      by_cases hj : j = i
      · subst hj
        rw [h2 j (by omega), List.getElem?_set_self (by omega)]
        simp
      · rw [h3 j (by omega) (by simpa using hj2)]
        congr 2
        omega
    · have e : ((m + (d + 1) : Nat) : Int) = ((m + 1 + d : Nat) : Int) := by omega
      rw [e]
      refine Ev.step (f := fun k => (laws_markText.f k (m : Int)).bind fun t121 => laws_markStringS.l0 k (l.set i t121) ((m + 1 : Nat) : Int) ((i + 1 : Nat) : Int)) (fun k => ?_) (Ev.bind (mt_ev m h0 (by omega)) h4)
      simp only [laws_markStringS.l0]
      rw [if_pos (by omega), hw1, hw2]
      congr 1

theorem held_loop : ∀ (d : Nat) (l : List ByteArray) (m i : Nat), i + d = l.length → l.length ≤ 900000 → 0 < m → m + d ≤ 1000000 → (∀ j, i ≤ j → j < l.length → l[j]? = some (mt (m + (j - i)))) →
    Ev (fun k => laws_heldStringS.l0 k l (m : Int) (i : Int)) ((m + d : Nat) : Int) := by
  intro d
  induction d with
  | zero =>
    intro l m i hi hlen h0 hm _
    refine Ev.step (f := fun _ => some _) (fun k => ?_) (Ev.now _)
    simp only [laws_heldStringS.l0]
    rw [if_neg (by omega)]
    rfl
  | succ d ih =>
    intro l m i hi hlen h0 hm hl
    have hw1 : wrap64 ((m : Int) + 1) = ((m + 1 : Nat) : Int) := by unfold wrap64; omega
    have hw2 : wrap64 ((i : Int) + 1) = ((i + 1 : Nat) : Int) := by unfold wrap64; omega
    have h4 := ih l (m + 1) (i + 1) (by omega) hlen (by omega) (by omega) (fun j h1 h2 => by rw [hl j (by omega) h2]; congr 2; omega)
    have e : ((m + (d + 1) : Nat) : Int) = ((m + 1 + d : Nat) : Int) := by omega
    rw [e]
    have hg : rdOf ByteArray.empty l (i : Int) = mt m := by
      unfold rdOf
      rw [List.getD_eq_getElem?_getD, Int.toNat_natCast, hl i (by omega) (by omega)]
      simp
    refine Ev.step (f := fun k => (laws_markText.f k (m : Int)).bind fun t => if (mt m).toList = t.toList then laws_heldStringS.l0 k l ((m + 1 : Nat) : Int) ((i + 1 : Nat) : Int) else some (-1)) (fun k => ?_) (Ev.bind (mt_ev m h0 (by omega)) ?_)
    · simp only [laws_heldStringS.l0]
      rw [if_pos (by omega), if_pos (by omega), hw1, hw2, hg]
    · simp only [if_true]
      exact h4

/-- what is marked is held -/
theorem marks_ev (l : List ByteArray) (hl : l.length ≤ 900000) : ∃ l', Ev (fun k => laws_markStringS.f k l 1) (((1 + l.length : Nat) : Int), l') ∧ Ev (fun k => laws_heldStringS.f k l' 1) ((1 + l.length : Nat) : Int) := by
  obtain ⟨l', h1, _, h3, h4⟩ := mark_loop l.length l 1 0 (by omega) hl (by omega) (by omega)
  have h5 := held_loop l.length l' 1 0 (by omega) (by omega) (by omega) (by omega) (fun j a b => h3 j a (by omega))
  exact ⟨l', h4, h5⟩

theorem eq_loop (l : List ByteArray) (hl : l.length ≤ 900000) : ∀ (d i : Nat), i + d = l.length → Ev (fun k => laws_eqStringS.l0 k l l (i : Int)) true := by
  intro d
  induction d with
  | zero =>
    intro i hi
    refine Ev.step (f := fun _ => some _) (fun k => ?_) (Ev.now _)
    simp only [laws_eqStringS.l0]
    rw [if_neg (by omega)]
  | succ d ih =>
    intro i hi
    have hw2 : wrap64 ((i : Int) + 1) = ((i + 1 : Nat) : Int) := by unfold wrap64; omega
    refine Ev.step (fun k => ?_) (ih (i + 1) (by omega))
    simp only [laws_eqStringS.l0]
    rw [if_pos (by omega), if_pos (by omega), if_pos (by omega), hw2]
    simp

theorem eq_ev (l : List ByteArray) (hl : l.length ≤ 900000) : Ev (fun k => laws_eqStringS.f k l l) true := by
  refine Ev.congr (fun k => ?_) (eq_loop l hl l.length 0 (by omega))
  unfold laws_eqStringS.f
  rw [if_pos rfl]
  rfl


theorem within_ev (a lo hi : Int) : impl_within.f a lo hi = spec_l1In.f a lo hi := rfl

theorem lines_loop (s : ByteArray) (hs : s.size ≤ 800) (wide : Nat) (hw0 : 0 < wide) (hw : wide ≤ 100) : ∀ (d i : Nat) (acc : List ByteArray), i ≤ s.size → s.size - i ≤ d → acc.length ≤ i →
    ∃ r, r.length ≤ 800 ∧ Ev (fun k => spec_l3Lines.l0 k s (wide : Int) acc (i : Int)) r ∧ Ev (fun k => impl_linesOf.l0 k (s.extract i s.size) (wide : Int) acc) r := by
  intro d
  induction d with
  | zero =>
    intro i acc hi hd ha
    obtain rfl : i = s.size := by omega
    refine ⟨acc, by omega, Ev.step (f := fun _ => some _) (fun k => ?_) (Ev.now _), Ev.step (f := fun _ => some _) (fun k => ?_) (Ev.now _)⟩
    · simp only [spec_l3Lines.l0]
      rw [if_neg (by omega)]
    · simp only [impl_linesOf.l0]
      rw [if_pos (by rw [Lib.extract_toList]; simp)]
  | succ d ih =>
    intro i acc hi hd ha
    by_cases hlt : i < s.size
    · have hne : ¬ (s.extract i s.size).toList = ([] : List UInt8) := by
        intro h
        have := congrArg List.length h
        rw [Lib.extract_toList] at this
        have hsz := Lib.size_eq s
        simp at this
        simp at hsz
        omega
      have hwi : wrap64 ((i : Int) + (wide : Int)) = ((i + wide : Nat) : Int) := by unfold wrap64; omega
      have hex : (s.extract i s.size).size = s.size - i := by rw [ByteArray.size_extract]; omega
      by_cases hlast : s.size < i + wide
      · -- the last line
        refine ⟨acc ++ [s.extract i s.size], by simp; omega, ?_, ?_⟩
        · refine Ev.step (f := fun k => spec_l3Lines.l0 k s (wide : Int) (acc ++ [s.extract i s.size]) ((i + wide : Nat) : Int)) (fun k => ?_) (Ev.step (f := fun _ => some _) (fun k => ?_) (Ev.now _))
          · simp only [spec_l3Lines.l0, hwi, spec_l1Least.f]
            rw [if_pos (by omega), if_pos (by omega)]
            simp only [Option.bind_some]
            rw [if_pos (by omega), if_pos (by omega), if_pos (by omega), if_pos (by omega)]
            simp
          · simp only [spec_l3Lines.l0]
            rw [if_neg (by omega)]
        · have hmn : mn (wide : Int) (((s.extract i s.size).size : Nat) : Int) = ((s.size - i : Nat) : Int) := by rw [hex]; unfold mn; rw [if_pos (by omega)]
          refine Ev.step (f := fun k => impl_linesOf.l0 k ((s.extract i s.size).extract (s.size - i) (s.size - i)) (wide : Int) (acc ++ [s.extract i s.size])) (fun k => ?_) (Ev.step (f := fun _ => some _) (fun k => ?_) (Ev.now _))
          · simp only [impl_linesOf.l0, hmn]
            rw [if_neg hne, if_pos (by omega), if_pos (by rw [hex]; exact Int.le_refl _), if_pos (by omega), hex, Int.toNat_natCast]
            congr 2
            rw [ByteArray.extract_extract]
            congr 2
            omega
          · simp only [impl_linesOf.l0]
            rw [if_pos (by rw [Lib.extract_toList]; simp)]
      · obtain ⟨r, hr, h1, h2⟩ := ih (i + wide) (acc ++ [s.extract i (i + wide)]) (by omega) (by omega) (by simp; omega)
        refine ⟨r, hr, Ev.step (fun k => ?_) h1, Ev.step (fun k => ?_) h2⟩
        · simp only [spec_l3Lines.l0, hwi, spec_l1Least.f]
          rw [if_pos (by omega), if_neg (by omega)]
          simp only [Option.bind_some]
          rw [if_pos (by omega), if_pos (by omega), if_pos (by omega), if_pos (by omega), Int.toNat_natCast, Int.toNat_natCast]
        · have hmn : mn (wide : Int) (((s.extract i s.size).size : Nat) : Int) = (wide : Int) := by rw [hex]; unfold mn; rw [if_neg (by omega)]
          simp only [impl_linesOf.l0, hmn]
          rw [if_neg hne, if_pos (by omega), if_pos (by rw [hex]; omega), if_pos (by omega), hex, Int.toNat_natCast, ByteArray.extract_extract, ByteArray.extract_extract]
          have e1 : min (i + (s.size - i)) s.size = s.size := by omega
          have e2 : min (i + wide) s.size = i + wide := by omega
          rw [e1, e2]
          rfl
    · obtain rfl : i = s.size := by omega
      exact ih s.size acc hi (by omega) ha

theorem both_ev (s : ByteArray) (w : Int) : ∃ r : List ByteArray × Bool, r.1.length ≤ 800 ∧ Ev (fun k => spec_LinesOf.f k s w) r ∧ Ev (fun k => impl_LinesOf.f k s w) r := by
  unfold spec_LinesOf.f impl_LinesOf.f
  rw [within_ev]
  unfold spec_l1In.f
  by_cases h1 : (s.size : Int) > 800
  · simp only [h1, if_true]
    exact ⟨_, by simp, Ev.now _, Ev.now _⟩
  · simp only [h1, if_false]
    by_cases h2 : w ≥ 1
    · by_cases h3 : w ≤ 100
      · obtain ⟨wide, rfl⟩ : ∃ m : Nat, w = (m : Int) := ⟨w.toNat, by omega⟩
        obtain ⟨r, hr, hs, hi⟩ := lines_loop s (by omega) wide (by omega) (by omega) s.size 0 [] (by omega) (by omega) (by simp)
        have e : s.extract 0 s.size = s := by simp
        rw [e] at hi
        simp only [h2, h3, if_true, decide_true, Option.bind_some]
        exact ⟨(r, true), hr, Ev.bind hs (Ev.now _), Ev.bind hi (Ev.now _)⟩
      · simp only [h2, h3, if_true, decide_false, Option.bind_some, Bool.false_eq_true, if_false]
        exact ⟨_, by simp, Ev.now _, Ev.now _⟩
    · simp only [h2, if_false, Option.bind_some, Bool.false_eq_true]
      exact ⟨_, by simp, Ev.now _, Ev.now _⟩

theorem FnExactLinesOf : laws_FnExactLinesOf.Pure := by
  intro s w hn _
  obtain ⟨⟨l, b⟩, hl, hs, hi⟩ := both_ev s w
  replace hl : l.length ≤ 800 := hl
  obtain ⟨l', hm, hh⟩ := marks_ev l (by omega)
  have he := eq_ev l (by omega)
  by_cases h : (s.size : Int) > 1048576
  · exact ⟨0, by unfold laws_FnExactLinesOf.f; rw [if_pos h]⟩
  refine Ev.rounds (Ev.congr (fun k => by unfold laws_FnExactLinesOf.f; rw [if_neg h]) (Ev.bind hs (Ev.bind hi (Ev.bind he ?_))))
  simp only [if_true, bne_self_eq_false]
  refine Ev.step (fun k => by rw [laws_FnExactLinesOf.j0, if_neg (by simp)]) (Ev.bind hm (Ev.bind hh ?_))
  have hneg : ¬ (((1 + l.length : Nat) : Int) < 0) := by omega
  simp only [if_neg hneg, if_true]
  refine Ev.bind hi (Ev.bind he ?_)
  simp only [if_true, bne_self_eq_false]
  refine Ev.step (fun k => by rw [laws_FnExactLinesOf.j1, if_neg (by simp)]) (Ev.bind hh ?_)
  simp only [if_neg hneg, if_true]
  exact Ev.now _

end Go.Proofs.Ytlikjclgpmalkaa.Pure
