/- The law FnExactTextOf answers true for every list of numbers. No condition. -/
import Derived.Test.YtbacmgbpjcnknaaSFnExactTextOfx2
import Derived.Laws.BitsLemmas
namespace Go.Proofs.Ytbacmgbpjcnknaa.Pure
open Go.RowKit Go.Proofs.Ytbacmgbpjcnknaa.SFnExactTextOf Go.Proofs.YtbacmgbpjcnknaaW.PrintWords Go.Proofs.YtbacmgbpjcnknaaW.PrintLast Go.Proofs.YtbacmgbpjcnknaaW.PrintMore

theorem eq_loop (l : List Int) (hl : l.length ≤ 2000000) : ∀ (d i : Nat), i + d = l.length → Ev (fun k => laws_eqIntS.l0 k l l (i : Int)) true := by
  intro d
  induction d with
  | zero =>
    intro i hi
    refine Ev.step (f := fun _ => some _) (fun k => ?_) (Ev.now _)
    simp only [laws_eqIntS.l0]
    rw [if_neg (by omega)]
  | succ d ih =>
    intro i hi
    have hw2 : wrap64 ((i : Int) + 1) = ((i + 1 : Nat) : Int) := by unfold wrap64; omega
    refine Ev.step (fun k => ?_) (ih (i + 1) (by omega))
    simp only [laws_eqIntS.l0]
    rw [if_pos (by omega), if_pos (by omega), if_pos (by omega), hw2]
    simp

theorem eq_ev (l : List Int) (hl : l.length ≤ 2000000) : Ev (fun k => laws_eqIntS.f k l l) true := by
  refine Ev.congr (fun k => ?_) (eq_loop l hl l.length 0 (by omega))
  unfold laws_eqIntS.f
  rw [if_pos rfl]
  rfl


theorem to_loop (l : List Int) (hl : l.length ≤ 2000000) : ∀ (d i : Nat) (x : List Int), i + d = l.length → x.length = l.length → (∀ j, j < i → x[j]? = l[j]?) → Ev (fun k => laws_toIntS.l0 k l x (i : Int)) l := by
  intro d
  induction d with
  | zero =>
    intro i x hi hx hj
    have e : x = l := by
      apply List.ext_getElem?
      intro j
      by_cases h : j < i
      · exact hj j h
      · rw [List.getElem?_eq_none (by omega), List.getElem?_eq_none (by omega)]
    subst e
    refine Ev.step (f := fun _ => some _) (fun k => ?_) (Ev.now _)
    simp only [laws_toIntS.l0]
    rw [if_neg (by omega)]
  | succ d ih =>
    intro i x hi hx hj
    have hw2 : wrap64 ((i : Int) + 1) = ((i + 1 : Nat) : Int) := by unfold wrap64; omega
    refine Ev.step (fun k => ?_) (ih (i + 1) (x.set i (rd l (i : Int))) (by omega) (by simpa using hx) ?_)
    · simp only [laws_toIntS.l0]
      rw [if_pos (by omega), if_pos (by omega), if_pos (by omega), hw2, Int.toNat_natCast]
    · intro j h
      by_cases he : j = i
      · subst he
        rw [List.getElem?_set_self (by omega)]
        unfold rd
        rw [List.getD_eq_getElem?_getD, Int.toNat_natCast, List.getElem?_eq_getElem (by omega)]
        simp
      · rw [List.getElem?_set_ne (by omega)]
        exact hj j (by omega)

theorem to_ev (l : List Int) (hl : l.length ≤ 2000000) : Ev (fun k => laws_toIntS.f k l) l := by
  refine Ev.congr (fun k => ?_) (to_loop l hl l.length 0 (List.replicate l.length 0) (by omega) (by simp) (fun j h => by omega))
  unfold laws_toIntS.f
  rw [if_pos (by omega), if_pos (by omega), Int.toNat_natCast]
  rfl


/-- a rune -/
def good (n : Int) : Bool := decide (0 ≤ n ∧ n ≤ 1114111) && !decide (55296 ≤ n ∧ n ≤ 57343)

theorem in_ev (a lo hi : Int) : spec_l1In.f a lo hi = some (decide (lo ≤ a ∧ a ≤ hi)) := by
  unfold spec_l1In.f
  by_cases h : a ≥ lo
  · rw [if_pos h]; congr 1; simp; omega
  · rw [if_neg h]; congr 1; simp; omega
theorem good_ev (n : Int) : spec_GoodRune.f n = some (good n) := by
  unfold spec_GoodRune.f good
  simp only [in_ev, Option.bind_some]
  by_cases h : 0 ≤ n ∧ n ≤ 1114111
  · simp only [h, and_self, decide_true, if_true, Bool.true_and]
  · simp only [h, decide_false, Bool.false_eq_true, if_false, Bool.false_and]

theorem all_loop (l : List Int) (hl : l.length ≤ 2000000) : ∀ (d i : Nat), i + d = l.length → Ev (fun k => spec_l2All.l0 k l l (l.length : Int) (i : Int)) ((l.drop i).all good && decide (l.length ≤ 60)) := by
  intro d
  induction d with
  | zero =>
    intro i hi
    have e : l.drop i = [] := List.drop_eq_nil_of_le (by omega)
    rw [e]
    refine Ev.step (f := fun _ => some _) (fun k => ?_) (Ev.now _)
    simp only [spec_l2All.l0]
    rw [if_neg (by omega)]
    congr 1
    simp
    omega
  | succ d ih =>
    intro i hi
    have hw2 : wrap64 ((i : Int) + 1) = ((i + 1 : Nat) : Int) := by unfold wrap64; omega
    have hd : l.drop i = rd l (i : Int) :: l.drop (i + 1) := by
      rw [List.drop_eq_getElem_cons (by omega)]
      congr 1
      unfold rd
      rw [List.getD_eq_getElem?_getD, Int.toNat_natCast, List.getElem?_eq_getElem (by omega)]
      simp
    rw [hd, List.all_cons]
    cases hg : good (rd l (i : Int)) with
    | true =>
      rw [Bool.true_and]
      refine Ev.step (fun k => ?_) (ih (i + 1) (by omega))
      simp only [spec_l2All.l0]
      rw [if_pos (by omega), if_pos (by omega), if_pos (by omega), good_ev, hg, hw2]
      simp
    | false =>
      rw [Bool.false_and, Bool.false_and]
      refine Ev.step (f := fun _ => some _) (fun k => ?_) (Ev.now _)
      simp only [spec_l2All.l0]
      rw [if_pos (by omega), if_pos (by omega), if_pos (by omega), good_ev, hg]
      simp

theorem all_ev (l : List Int) (hl : l.length ≤ 2000000) : Ev (fun k => spec_l2All.f k l) (l.all good && decide (l.length ≤ 60)) := by
  have h := all_loop l hl l.length 0 (by omega)
  exact h


theorem wraps_i64 (n : Int) (h0 : 0 ≤ n) (h1 : n < 2 ^ 40) : IntKind.i64.wrap n = n := by
  rw [IntKind.wrap_i64]
  have : (2 : Int) ^ 40 = 1099511627776 := by decide
  omega
theorem lim40 : (2 : Int) ^ 40 = 1099511627776 := by decide
theorem and63 {x : Int} (h0 : 0 ≤ x) (h1 : x < 1000000000) : Go.bits .and .i64 x 63 = x % 64 := bits_mask .i64 40 (by decide) wraps_i64 6 (by decide) x h0 (by rw [lim40]; omega)

theorem s1 (a : Int) : strOfNums [a] = ⟨#[UInt8.ofNat a.toNat]⟩ := rfl
theorem s2 (a b : Int) : strOfNums [a, b] = ⟨#[UInt8.ofNat a.toNat, UInt8.ofNat b.toNat]⟩ := rfl
theorem s3 (a b c : Int) : strOfNums [a, b, c] = ⟨#[UInt8.ofNat a.toNat, UInt8.ofNat b.toNat, UInt8.ofNat c.toNat]⟩ := rfl
theorem s4 (a b c d : Int) : strOfNums [a, b, c, d] = ⟨#[UInt8.ofNat a.toNat, UInt8.ofNat b.toNat, UInt8.ofNat c.toNat, UInt8.ofNat d.toNat]⟩ := rfl

theorem bytes_ev (n : Int) (hg : good n = true) : spec_l2Bytes.f n = some (Utf8.encode (wrap32 n)) := by
  have h : (0 ≤ n ∧ n ≤ 1114111) ∧ ¬ (55296 ≤ n ∧ n ≤ 57343) := by
    unfold good at hg
    simp only [Bool.and_eq_true, decide_eq_true_eq, Bool.not_eq_true', decide_eq_false_iff_not] at hg
    exact hg
  obtain ⟨m, rfl⟩ : ∃ m : Nat, n = (m : Int) := ⟨n.toNat, by omega⟩
  have e : wrap32 (m : Int) = (m : Int) := by unfold wrap32; omega
  have hv : Utf8.valid (m : Int) = true := by
    unfold Utf8.valid
    simp only [Bool.or_eq_true, Bool.and_eq_true, decide_eq_true_eq]
    omega
  rw [e]
  clear e hg
  unfold Utf8.encode spec_l2Bytes.f
  simp only [hv, if_true, Int.toNat_natCast]
  by_cases h1 : m < 128
  · have e1 : ((m : Int) % 256).toNat = m := by omega
    rw [if_pos (show (m : Int) < 128 by omega), if_pos h1, s1, e1]
  · rw [if_neg (show ¬ (m : Int) < 128 by omega), if_neg h1]
    by_cases h2 : m < 2048
    · have e1 : (wrap64 (192 + (m : Int) / 64) % 256).toNat = 192 + m / 64 := by unfold wrap64; omega
      have e2 : (wrap64 (128 + (m : Int) % 64) % 256).toNat = 128 + m % 64 := by unfold wrap64; omega
      rw [if_pos (show (m : Int) < 2048 by omega), if_pos h2, and63 (by omega) (by omega), s2, e1, e2]
    · rw [if_neg (show ¬ (m : Int) < 2048 by omega), if_neg h2]
      by_cases h3 : m < 65536
      · have e1 : (wrap64 (224 + (m : Int) / 4096) % 256).toNat = 224 + m / 4096 := by unfold wrap64; omega
        have e2 : (wrap64 (128 + (m : Int) / 64 % 64) % 256).toNat = 128 + m / 64 % 64 := by unfold wrap64; omega
        have e3 : (wrap64 (128 + (m : Int) % 64) % 256).toNat = 128 + m % 64 := by unfold wrap64; omega
        rw [if_pos (show (m : Int) < 65536 by omega), if_pos h3, and63 (x := (m : Int) / 64) (by omega) (by omega), and63 (x := (m : Int)) (by omega) (by omega), s3, e1, e2, e3]
      · have e1 : (wrap64 (240 + (m : Int) / 262144) % 256).toNat = 240 + m / 262144 := by unfold wrap64; omega
        have e2 : (wrap64 (128 + (m : Int) / 4096 % 64) % 256).toNat = 128 + m / 4096 % 64 := by unfold wrap64; omega
        have e3 : (wrap64 (128 + (m : Int) / 64 % 64) % 256).toNat = 128 + m / 64 % 64 := by unfold wrap64; omega
        have e4 : (wrap64 (128 + (m : Int) % 64) % 256).toNat = 128 + m % 64 := by unfold wrap64; omega
        rw [if_neg (show ¬ (m : Int) < 65536 by omega), if_neg h3, and63 (x := (m : Int) / 4096) (by omega) (by omega), and63 (x := (m : Int) / 64) (by omega) (by omega), and63 (x := (m : Int)) (by omega) (by omega), s4, e1, e2, e3, e4]

theorem encode_size (r : Int) : (Utf8.encode r).size ≤ 4 := by
  unfold Utf8.encode
  dsimp only
  generalize (if Utf8.valid r = true then r.toNat else Utf8.runeError) = c
  split
  · show 1 ≤ 4; omega
  · split
    · show 2 ≤ 4; omega
    · split
      · show 3 ≤ 4; omega
      · show 4 ≤ 4; omega


theorem rune_ev (n : Int) : impl_isRune.f n = some (good n) := good_ev n

theorem drop_cons (l : List Int) (i : Nat) (h : i < l.length) : l.drop i = rd l (i : Int) :: l.drop (i + 1) := by
  rw [List.drop_eq_getElem_cons h]
  congr 1
  unfold rd
  rw [List.getD_eq_getElem?_getD, Int.toNat_natCast, List.getElem?_eq_getElem h]
  simp

theorem text_good (l : List Int) (hl : l.length ≤ 60) : ∀ (d i : Nat) (s : ByteArray), i + d = l.length → s.size ≤ 4 * i → (l.drop i).all good = true →
    ∃ r, Ev (fun k => spec_TextOf.l0 k s l (l.length : Int) (i : Int)) r ∧ Ev (fun k => impl_TextOf.l0 k s l (l.length : Int) (i : Int)) r := by
  intro d
  induction d with
  | zero =>
    intro i s hi _ _
    refine ⟨(s, true), Ev.step (f := fun _ => some _) (fun k => ?_) (Ev.now _), Ev.step (f := fun _ => some _) (fun k => ?_) (Ev.now _)⟩
    · simp only [spec_TextOf.l0]; rw [if_neg (by omega)]
    · simp only [impl_TextOf.l0]; rw [if_neg (by omega)]
  | succ d ih =>
    intro i s hi hs hall
    have hw2 : wrap64 ((i : Int) + 1) = ((i + 1 : Nat) : Int) := by unfold wrap64; omega
    rw [drop_cons l i (by omega), List.all_cons, Bool.and_eq_true] at hall
    obtain ⟨hg, hall⟩ := hall
    have h4 := encode_size (wrap32 (rd l (i : Int)))
    obtain ⟨r, h1, h2⟩ := ih (i + 1) (s ++ Utf8.encode (wrap32 (rd l (i : Int)))) (by omega) (by rw [ByteArray.size_append]; omega) hall
    refine ⟨r, Ev.step (fun k => ?_) h1, Ev.step (fun k => ?_) h2⟩
    · simp only [spec_TextOf.l0]
      rw [if_pos (by omega), if_pos (by omega), if_pos (by omega), bytes_ev _ hg, Option.bind_some, if_pos (by omega), hw2]
    · simp only [impl_TextOf.l0]
      rw [if_pos (by omega), if_pos (by omega), if_pos (by omega), rune_ev, hg, Option.bind_some, if_pos rfl, if_pos (by omega), hw2]

theorem text_bad (l : List Int) (hl : l.length ≤ 60) : ∀ (d i : Nat) (s : ByteArray), i + d = l.length → s.size ≤ 4 * i → (l.drop i).all good = false →
    Ev (fun k => impl_TextOf.l0 k s l (l.length : Int) (i : Int)) ((⟨#[]⟩ : ByteArray), false) := by
  intro d
  induction d with
  | zero =>
    intro i s hi _ hall
    rw [List.drop_eq_nil_of_le (by omega)] at hall
    simp at hall
  | succ d ih =>
    intro i s hi hs hall
    have hw2 : wrap64 ((i : Int) + 1) = ((i + 1 : Nat) : Int) := by unfold wrap64; omega
    rw [drop_cons l i (by omega), List.all_cons] at hall
    have h4 := encode_size (wrap32 (rd l (i : Int)))
    cases hg : good (rd l (i : Int)) with
    | true =>
      rw [hg, Bool.true_and] at hall
      refine Ev.step (fun k => ?_) (ih (i + 1) (s ++ Utf8.encode (wrap32 (rd l (i : Int)))) (by omega) (by rw [ByteArray.size_append]; omega) hall)
      simp only [impl_TextOf.l0]
      rw [if_pos (by omega), if_pos (by omega), if_pos (by omega), rune_ev, hg, Option.bind_some, if_pos rfl, if_pos (by omega), hw2]
    | false =>
      refine Ev.step (f := fun _ => some _) (fun k => ?_) (Ev.now _)
      simp only [impl_TextOf.l0]
      rw [if_pos (by omega), if_pos (by omega), if_pos (by omega), rune_ev, hg, Option.bind_some, if_neg (by simp)]

theorem both_ev (l : List Int) (hl : l.length ≤ 2000000) : ∃ r, Ev (fun k => spec_TextOf.f k l) r ∧ Ev (fun k => impl_TextOf.f k l) r := by
  unfold spec_TextOf.f impl_TextOf.f
  have ha := all_ev l hl
  by_cases h : l.length ≤ 60
  · simp only [if_neg (show ¬ (l.length : Int) > 60 by omega)]
    rw [decide_eq_true h, Bool.and_true] at ha
    cases hall : l.all good with
    | true =>
      rw [hall] at ha
      obtain ⟨r, h1, h2⟩ := text_good l h l.length 0 (⟨#[]⟩ : ByteArray) (by omega) (by show 0 ≤ _; omega) hall
      refine ⟨r, Ev.bind ha ?_, h2⟩
      simp only [if_true]
      exact h1
    | false =>
      rw [hall] at ha
      refine ⟨_, Ev.bind ha ?_, text_bad l h l.length 0 (⟨#[]⟩ : ByteArray) (by omega) (by show 0 ≤ _; omega) hall⟩
      simp only [Bool.false_eq_true, if_false]
      exact Ev.now _
  · simp only [if_pos (show (l.length : Int) > 60 by omega)]
    rw [decide_eq_false h, Bool.and_false] at ha
    refine ⟨_, Ev.bind ha ?_, Ev.now _⟩
    simp only [Bool.false_eq_true, if_false]
    exact Ev.now _

theorem FnExactTextOf : laws_FnExactTextOf.Pure := by
  intro l _ _ _
  by_cases h : (l.length : Int) > 1048576
  · exact ⟨0, by unfold laws_FnExactTextOf.f; rw [if_pos h]⟩
  obtain ⟨⟨r, b⟩, hs, hi⟩ := both_ev l (by omega)
  have ht := to_ev l (by omega)
  have hel := eq_ev l (by omega)
  refine Ev.rounds (Ev.congr (fun k => by unfold laws_FnExactTextOf.f; rw [if_neg h]) (Ev.bind ht (Ev.bind hs (Ev.bind ht (Ev.bind hi ?_)))))
  simp only [if_true, bne_self_eq_false]
  refine Ev.step (fun k => by rw [laws_FnExactTextOf.j0, if_neg (by simp)]) (Ev.bind ht (Ev.bind hel ?_))
  simp only [if_true]
  exact Ev.now _

end Go.Proofs.Ytbacmgbpjcnknaa.Pure
