/- The law FnExactUnpadText answers true for every text. No condition. -/
import Derived.Test.YtkoalnbcoggabaaSFnExactUnpadTextx3
import Derived.Test.YtkoalnbcoggabaaUnp0
import Derived.Test.YtkoalnbcoggabaaUnp1
import Derived.Test.YtkoalnbcoggabaaUnp2
import Derived.Test.YtkoalnbcoggabaaUnp3
import Derived.Test.YtkoalnbcoggabaaUnp4
import Derived.Test.YtkoalnbcoggabaaUnp5
import Derived.Lib.Strings
namespace Go.Proofs.Ytkoalnbcoggabaa.Pure
open Go.RowKit Go.Proofs.Ytkoalnbcoggabaa.SFnExactUnpadText Go.Proofs.YtkoalnbcoggabaaW.PrintWords Go.Proofs.YtkoalnbcoggabaaW.PrintLast Go.Proofs.YtkoalnbcoggabaaW.PrintMore

theorem pad_of {a n : Nat} (h : padR a = true) (h1 : a ≤ n) (h2 : n < a + 51) : padOk n = true := by
  have e := List.all_eq_true.mp h (n - a) (List.mem_range.mpr (by omega))
  rw [show a + (n - a) = n by omega] at e
  exact e
theorem pad_all {n : Nat} (h : n ≤ 600) : padOk n = true := by
  by_cases h0 : n < 51
  · exact pad_of pad_0 (by omega) (by omega)
  by_cases h1 : n < 102
  · exact pad_of pad_1 (by omega) (by omega)
  by_cases h2 : n < 153
  · exact pad_of pad_2 (by omega) (by omega)
  by_cases h3 : n < 204
  · exact pad_of pad_3 (by omega) (by omega)
  by_cases h4 : n < 255
  · exact pad_of pad_4 (by omega) (by omega)
  by_cases h5 : n < 306
  · exact pad_of pad_5 (by omega) (by omega)
  by_cases h6 : n < 357
  · exact pad_of pad_6 (by omega) (by omega)
  by_cases h7 : n < 408
  · exact pad_of pad_7 (by omega) (by omega)
  by_cases h8 : n < 459
  · exact pad_of pad_8 (by omega) (by omega)
  by_cases h9 : n < 510
  · exact pad_of pad_9 (by omega) (by omega)
  by_cases h10 : n < 561
  · exact pad_of pad_10 (by omega) (by omega)
  exact pad_of pad_11 (by omega) (by omega)

theorem pad_facts {n : Nat} (h : n ≤ 600) : ∃ t : ByteArray, (9 ≤ t.size ∧ t.size ≤ 72 ∧ (n + t.size) % 64 = 0) ∧ dec8 (t.data.toList.drop (t.size - 8)) 0 = some (8 * (n : Int)) ∧ Ev (fun k => spec_l1Tail.f k (n : Int)) t ∧ Ev (fun k => impl_padding.f k (n : Int)) t := by
  have h1 := pad_all h
  unfold padOk at h1
  obtain ⟨t, ht, hd, e1, e2⟩ := cmpU_spec h1
  exact ⟨t, ht, hd, Ev.of (g := fun k => spec_l1Tail.f k (n : Int)) (fun k => spec_l1Tail.mono _ k) e1, Ev.of (g := fun k => impl_padding.f k (n : Int)) (fun k => impl_padding.mono _ k) e2⟩
theorem up_wraps (n : Int) (h0 : 0 ≤ n) (h1 : n < 2 ^ 40) : IntKind.i64.wrap n = n := by
  rw [IntKind.wrap_i64]
  have : (2 : Int) ^ 40 = 1099511627776 := by decide
  omega
theorem up_or (n b : Int) (h0 : 0 ≤ n) (h1 : n < 4294967296) (hb0 : 0 ≤ b) (hb1 : b < 256) : Go.bits .or .i64 (n * 256) b = n * 256 + b := by
  have l40 : (2 : Int) ^ 40 = 1099511627776 := by decide
  exact bits_join .i64 40 (by decide) up_wraps 8 (n * 256) b (by omega) (by omega) (by omega) hb0 (by omega) (by omega)
theorem dec8_bd : ∀ (l : List UInt8) (n m : Int), 0 ≤ n → n ≤ 268435711 → dec8 l n = some m → 0 ≤ m ∧ m ≤ 268435711
  | [], n, m, h0, h1, h => by
    obtain rfl : n = m := by simpa [dec8] using h
    exact ⟨h0, h1⟩
  | b :: t, n, m, h0, h1, h => by
    unfold dec8 at h
    have hb := b.toNat_lt
    by_cases hn : n > 1048576
    · rw [if_pos hn] at h; cases h
    · rw [if_neg hn] at h
      exact dec8_bd t _ m (by omega) (by omega) h
/-- what the reference does behind its loop -/
def upFin (k : Nat) (x0 : ByteArray) (x4 : Int) : Option (ByteArray × Bool) :=
  (if (Int.tmod x4 8) = 0 then (if (wrap64 (Int.tdiv x4 8)) > 600 then (some ((⟨#[]⟩ : ByteArray), false)) else (if (wrap64 (Int.tdiv x4 8)) > (x0.size : Int) then (some ((⟨#[]⟩ : ByteArray), false)) else (if 0 ≤ (wrap64 (Int.tdiv x4 8)) then (if (wrap64 (Int.tdiv x4 8)) ≤ (x0.size : Int) then ((spec_l1Tail.f k (wrap64 (Int.tdiv x4 8))).bind fun t118 => (if (x0.extract 0 ((wrap64 (Int.tdiv x4 8)) : Int).toNat).size + t118.size ≤ 9223372036854775807 then (if ((x0.extract 0 ((wrap64 (Int.tdiv x4 8)) : Int).toNat) ++ t118).toList = x0.toList then (some (x0.extract 0 ((wrap64 (Int.tdiv x4 8)) : Int).toNat, true)) else (some ((⟨#[]⟩ : ByteArray), false))) else (none))) else (none)) else (none)))) else (some ((⟨#[]⟩ : ByteArray), false)))
theorem rd_at (u : ByteArray) (i : Nat) (h : i < u.size) : rd (numsB u) (i : Int) = ((u.data.toList[i]'(by rw [← Lib.size_eq]; exact h)).toNat : Int) := by
  unfold rd numsB
  have hl : i < u.data.toList.length := by rw [← Lib.size_eq]; exact h
  rw [Int.toNat_natCast, List.getD_eq_getElem?_getD, List.getElem?_map, List.getElem?_eq_getElem hl]
  rfl
theorem up_loop (s u : ByteArray) (hu : u.size ≤ 8) (r : ByteArray × Bool) : ∀ (d i : Nat) (n : Int), i + d = u.size → 0 ≤ n → n ≤ 268435711 →
    ((dec8 (u.data.toList.drop i) n = none ∧ r = (⟨#[]⟩, false)) ∨ ∃ m, dec8 (u.data.toList.drop i) n = some m ∧ Ev (fun k => upFin k s m) r) →
    Ev (fun k => spec_UnpadText.l0 k s n (numsB u) ((numsB u).length : Int) (i : Int)) r := by
  intro d
  induction d with
  | zero =>
    intro i n hi h0 h1 h
    have hl : u.data.toList.drop i = [] := List.drop_eq_nil_of_le (by rw [← Lib.size_eq]; omega)
    rw [hl] at h
    rcases h with ⟨h, _⟩ | ⟨m, h, he⟩
    · simp [dec8] at h
    · obtain rfl : n = m := by simpa [dec8] using h
      refine Ev.step (fun k => ?_) he
      simp only [spec_UnpadText.l0]
      rw [if_neg (by rw [numsB_length]; omega)]
      rfl
  | succ d ih =>
    intro i n hi h0 h1 h
    have hlt : i < u.size := by omega
    have hll : i < u.data.toList.length := by rw [← Lib.size_eq]; exact hlt
    have hd : u.data.toList.drop i = u.data.toList[i] :: u.data.toList.drop (i + 1) := List.drop_eq_getElem_cons hll
    have hr := rd_at u i hlt
    have hb := (u.data.toList[i]).toNat_lt
    rw [hd] at h
    unfold dec8 at h
    generalize u.data.toList[i] = b at h hr hb
    by_cases hn : n > 1048576
    · rw [if_pos hn] at h
      have hre : r = (⟨#[]⟩, false) := by
        rcases h with ⟨_, h⟩ | ⟨m, h, _⟩
        · exact h
        · cases h
      refine ⟨1, fun k hk => ?_⟩
      obtain ⟨k, rfl⟩ : ∃ m, k = m + 1 := ⟨k - 1, by omega⟩
      simp only [spec_UnpadText.l0]
      rw [if_pos (by rw [numsB_length]; omega), if_pos (by omega), if_pos (by rw [numsB_length]; omega), if_pos hn, hre]
    · rw [if_neg hn] at h
      have hw1 : wrap64 (n * 256) = n * 256 := by unfold wrap64; omega
      have hw2 : wrap64 ((i : Int) + 1) = ((i + 1 : Nat) : Int) := by unfold wrap64; omega
      have hw3 : wrap64 (b.toNat : Int) = (b.toNat : Int) := by unfold wrap64; omega
      refine Ev.step (fun k => ?_) (ih (i + 1) (n * 256 + (b.toNat : Int)) (by omega) (by omega) (by omega) h)
      simp only [spec_UnpadText.l0]
      rw [if_pos (by rw [numsB_length]; omega), if_pos (by omega), if_pos (by rw [numsB_length]; omega), if_neg hn, hr, hw1, hw2, hw3, up_or n _ h0 (by omega) (by omega) (by omega)]
/-- s is a text of this length with its padding behind it -/
def Pads (s : ByteArray) (q : Nat) : Prop := q ≤ 600 ∧ q ≤ s.size ∧ ∃ t, Ev (fun k => impl_padding.f k (q : Int)) t ∧ s.data.toList = s.data.toList.take q ++ t.data.toList
theorem ev_same {α : Type} {g : Nat → Option α} {a b : α} (ha : Ev g a) (hb : Ev g b) : a = b := by
  obtain ⟨K, ha⟩ := ha
  obtain ⟨K', hb⟩ := hb
  have h1 := ha (max K K') (by omega)
  rw [hb (max K K') (by omega)] at h1
  exact (Option.some.inj h1).symm
theorem pads_last {s : ByteArray} {q : Nat} (h : Pads s q) : (9 ≤ s.size ∧ s.size % 64 = 0 ∧ s.size ≤ q + 72 ∧ q + 9 ≤ s.size) ∧ dec8 (s.data.toList.drop (s.size - 8)) 0 = some (8 * (q : Int)) := by
  obtain ⟨h6, hs, t, ht, he⟩ := h
  obtain ⟨t', hsz, hd, _, ht'⟩ := pad_facts h6
  obtain rfl := ev_same ht ht'
  have hl : s.size = q + t.size := by
    have h1 := congrArg List.length he
    rw [List.length_append, List.length_take, ← Lib.size_eq, ← Lib.size_eq] at h1
    omega
  refine ⟨by omega, ?_⟩
  rw [← hd]
  congr 1
  rw [he, List.drop_append]
  have hq : (s.data.toList.take q).length = q := by rw [List.length_take, ← Lib.size_eq]; omega
  rw [hq, List.drop_eq_nil_of_le (by rw [hq]; omega), List.nil_append]
  congr 1
  omega
theorem pads_one {s : ByteArray} {p q : Nat} (h1 : Pads s p) (h2 : Pads s q) : p = q := by
  have e1 := (pads_last h1).2
  rw [(pads_last h2).2] at e1
  have := Option.some.inj e1
  omega
theorem fin_pads {s : ByteArray} {m : Int} (h0 : 0 ≤ m) (h1 : m ≤ 268435711) (q : Nat) (hm : m = 8 * (q : Int)) (h : Pads s q) : Ev (fun k => upFin k s m) (s.extract 0 q, true) := by
  obtain ⟨h6, hs, t, ht, he⟩ := h
  obtain ⟨t', hsz, _, ht1, ht'⟩ := pad_facts h6
  obtain rfl := ev_same ht ht'
  subst hm
  have e1 : Int.tmod (8 * (q : Int)) 8 = 0 := by rw [Int.tmod_eq_emod_of_nonneg h0]; omega
  have e2 : wrap64 (Int.tdiv (8 * (q : Int)) 8) = (q : Int) := by rw [Int.tdiv_eq_ediv_of_nonneg h0]; unfold wrap64; omega
  have e3 : (s.extract 0 q).size + t.size ≤ 9223372036854775807 := by rw [ByteArray.size_extract]; omega
  have e4 : (s.extract 0 q ++ t).toList = s.toList := by
    rw [Lib.toList_data, Lib.toList_data, he]
    have h2 := Lib.extract_toList s 0 q
    rw [Lib.toList_data] at h2
    simp only [List.drop_zero, Nat.sub_zero] at h2
    rw [ByteArray.data_append, Array.toList_append, h2]
  refine Ev.congr (fun k => by unfold upFin; rw [if_pos e1, e2, if_neg (by omega), if_neg (by omega), if_pos (by omega), if_pos (by omega), Int.toNat_natCast]) ?_
  refine Ev.bind ht1 ?_
  rw [if_pos e3, if_pos e4]
  exact Ev.now _
theorem fin_none {s : ByteArray} {m : Int} (h0 : 0 ≤ m) (h1 : m ≤ 268435711) (h : ∀ q : Nat, ¬ Pads s q) : Ev (fun k => upFin k s m) (⟨#[]⟩, false) := by
  by_cases e1 : Int.tmod m 8 = 0
  · obtain ⟨q, rfl⟩ : ∃ q : Nat, m = 8 * (q : Int) := ⟨(m / 8).toNat, by rw [Int.tmod_eq_emod_of_nonneg h0] at e1; omega⟩
    have e2 : wrap64 (Int.tdiv (8 * (q : Int)) 8) = (q : Int) := by rw [Int.tdiv_eq_ediv_of_nonneg h0]; unfold wrap64; omega
    by_cases h6 : q ≤ 600
    · by_cases hs : q ≤ s.size
      · obtain ⟨t, hsz, _, ht1, ht⟩ := pad_facts h6
        have e3 : (s.extract 0 q).size + t.size ≤ 9223372036854775807 := by rw [ByteArray.size_extract]; omega
        refine Ev.congr (fun k => by unfold upFin; rw [if_pos e1, e2, if_neg (by omega), if_neg (by omega), if_pos (by omega), if_pos (by omega), Int.toNat_natCast]) ?_
        refine Ev.bind ht1 ?_
        rw [if_pos e3, if_neg]
        · exact Ev.now _
        · intro e4
          refine h q ⟨h6, hs, t, ht, ?_⟩
          rw [Lib.toList_data, Lib.toList_data, ByteArray.data_append, Array.toList_append] at e4
          have h2 := Lib.extract_toList s 0 q
          rw [Lib.toList_data] at h2
          simp only [List.drop_zero, Nat.sub_zero] at h2
          rw [h2] at e4
          exact e4.symm
      · exact Ev.congr (fun k => by unfold upFin; rw [if_pos e1, e2, if_neg (by omega), if_pos (by omega)]) (Ev.now _)
    · exact Ev.congr (fun k => by unfold upFin; rw [if_pos e1, e2, if_pos (by omega)]) (Ev.now _)
  · exact Ev.congr (fun k => by unfold upFin; rw [if_neg e1]) (Ev.now _)
theorem spec_end (s : ByteArray) (h9 : 9 ≤ s.size) (h67 : s.size ≤ 672) (r : ByteArray × Bool)
    (h : ∀ m, dec8 (s.data.toList.drop (s.size - 8)) 0 = some m → Ev (fun k => upFin k s m) r) (hn : dec8 (s.data.toList.drop (s.size - 8)) 0 = none → r = (⟨#[]⟩, false)) :
    Ev (fun k => spec_UnpadText.j0 k s false) r := by
  have hw : wrap64 ((s.size : Int) - 8) = ((s.size - 8 : Nat) : Int) := by unfold wrap64; omega
  have hsz : (s.extract (s.size - 8) s.size).size = 8 := by rw [ByteArray.size_extract]; omega
  have hl : (s.extract (s.size - 8) s.size).data.toList = s.data.toList.drop (s.size - 8) := by
    have h2 := Lib.extract_toList s (s.size - 8) s.size
    rw [Lib.toList_data] at h2
    rw [h2, List.take_of_length_le]
    rw [List.length_drop, ← Lib.size_eq]
    omega
  refine Ev.step (f := fun k => spec_UnpadText.l0 k s 0 (numsB (s.extract (s.size - 8) s.size)) ((numsB (s.extract (s.size - 8) s.size)).length : Int) ((0 : Nat) : Int)) (fun k => ?_) ?_
  · simp only [spec_UnpadText.j0, hw, Int.toNat_natCast]
    rw [if_neg (by decide), if_pos (by omega), if_pos (by omega), if_pos (by omega), Option.bind_some]
    rfl
  · refine up_loop s _ (by omega) r 8 0 0 (by omega) (by omega) (by omega) ?_
    rw [List.drop_zero, hl]
    cases hc : dec8 (s.data.toList.drop (s.size - 8)) 0 with
    | none => exact .inl ⟨rfl, hn hc⟩
    | some m => exact .inr ⟨m, rfl, h m hc⟩
theorem impl_end (s : ByteArray) (h9 : 9 ≤ s.size) (h67 : s.size ≤ 672) (r : ByteArray × Bool) (e : Nat) (he : e = min 600 (s.size - 9))
    (hr : (∃ q, Pads s q ∧ r = (s.extract 0 q, true)) ∨ ((∀ q, ¬ Pads s q) ∧ r = (⟨#[]⟩, false))) :
    ∀ (d i : Nat), i + d = e + 1 → (∀ q, Pads s q → i ≤ q) → Ev (fun k => impl_UnpadText.l0 k s (i : Int)) r := by
  have hmn : mn 600 (wrap64 ((s.size : Int) - 9)) = (e : Int) := by
    have hw : wrap64 ((s.size : Int) - 9) = (s.size : Int) - 9 := by unfold wrap64; omega
    rw [hw]
    unfold mn
    split <;> omega
  intro d
  induction d with
  | zero =>
    intro i hi hq
    have hre : r = (⟨#[]⟩, false) := by
      rcases hr with ⟨q, h, _⟩ | ⟨_, h⟩
      · have h1 := hq q h
        have h2 := (pads_last h).1
        have h3 := h.1
        omega
      · exact h
    refine ⟨1, fun k hk => ?_⟩
    obtain ⟨k, rfl⟩ : ∃ m, k = m + 1 := ⟨k - 1, by omega⟩
    simp only [impl_UnpadText.l0, hmn]
    rw [if_neg (by omega), hre]
  | succ d ih =>
    intro i hi hq
    have hw : wrap64 ((i : Int) + 1) = ((i + 1 : Nat) : Int) := by unfold wrap64; omega
    obtain ⟨t, hsz, _, ht1, ht⟩ := pad_facts (show i ≤ 600 by omega)
    have hcut : s.data.toList = s.data.toList.take i ++ (s.extract i s.size).toList := by
      rw [Lib.extract_toList, List.take_of_length_le (l := s.data.toList.drop i) (by rw [List.length_drop, ← Lib.size_eq]; omega), List.take_append_drop]
    by_cases hc : (s.extract i s.size).toList = t.toList
    · have hp : Pads s i := ⟨by omega, by omega, t, ht, by rw [Lib.toList_data t] at hc; rw [← hc]; exact hcut⟩
      have hre : r = (s.extract 0 i, true) := by
        rcases hr with ⟨q, h, hr⟩ | ⟨h, _⟩
        · rw [pads_one hp h]; exact hr
        · exact absurd hp (h i)
      have h2 : Ev (fun k => (impl_padding.f k (i : Int)).bind fun t122 => (if (s.extract i s.size).toList = t122.toList then (some (s.extract 0 i, true)) else (impl_UnpadText.l0 k s (wrap64 ((i : Int) + 1))))) r := by
        refine Ev.bind ht ?_
        rw [hre]
        simp only [if_pos hc]
        exact Ev.now _
      refine Ev.step (fun k => ?_) h2
      simp only [impl_UnpadText.l0, hmn, Int.toNat_natCast]
      rw [if_pos (by omega), if_pos (by omega), if_pos (by omega)]
    · have h2 : Ev (fun k => (impl_padding.f k (i : Int)).bind fun t122 => (if (s.extract i s.size).toList = t122.toList then (some (s.extract 0 i, true)) else (impl_UnpadText.l0 k s (wrap64 ((i : Int) + 1))))) r := by
        refine Ev.bind ht ?_
        simp only [if_neg hc, hw]
        refine ih (i + 1) (by omega) (fun q h => ?_)
        have h1 := hq q h
        rcases Nat.lt_or_ge i q with h3 | h3
        · exact h3
        · exfalso
          obtain rfl : i = q := by omega
          obtain ⟨_, _, t', ht', he'⟩ := h
          obtain rfl := ev_same ht ht'
          apply hc
          rw [Lib.toList_data t]
          exact List.append_cancel_left (hcut.symm.trans he')
      refine Ev.step (fun k => ?_) h2
      simp only [impl_UnpadText.l0, hmn, Int.toNat_natCast]
      rw [if_pos (by omega), if_pos (by omega), if_pos (by omega)]

theorem both_end (s : ByteArray) (h67 : s.size ≤ 672) : ∃ r, Ev (fun k => spec_UnpadText.f k s) r ∧ Ev (fun k => impl_UnpadText.f k s) r := by
  have hr : ∃ r : ByteArray × Bool, (∃ q, Pads s q ∧ r = (s.extract 0 q, true)) ∨ ((∀ q, ¬ Pads s q) ∧ r = (⟨#[]⟩, false)) := by
    by_cases h : ∃ q, Pads s q
    · obtain ⟨q, h⟩ := h
      exact ⟨_, .inl ⟨q, h, rfl⟩⟩
    · exact ⟨_, .inr ⟨fun q hq => h ⟨q, hq⟩, rfl⟩⟩
  obtain ⟨r, hr⟩ := hr
  refine ⟨r, ?_, ?_⟩
  · by_cases hz : (s.size : Int) % 64 = 0
    · by_cases h0 : s.size = 0
      · have hre : r = (⟨#[]⟩, false) := by
          rcases hr with ⟨q, h, _⟩ | ⟨_, h⟩
          · have := (pads_last h).1; omega
          · exact h
        have hb : ((s.size : Int) == 0) = true := by rw [h0]; rfl
        refine Ev.congr (fun k => by unfold spec_UnpadText.f; rw [if_neg (by omega), if_pos hz, hb]) ?_
        refine ⟨1, fun k hk => ?_⟩
        obtain ⟨k, rfl⟩ : ∃ m, k = m + 1 := ⟨k - 1, by omega⟩
        simp only [spec_UnpadText.j0]
        rw [if_pos trivial, hre]
      · have hb : ((s.size : Int) == 0) = false := beq_eq_false_iff_ne.mpr (by omega)
        refine Ev.congr (fun k => by unfold spec_UnpadText.f; rw [if_neg (by omega), if_pos hz, hb]) ?_
        refine spec_end s (by omega) h67 r (fun m hm => ?_) (fun hn => ?_)
        · have hbd := dec8_bd _ 0 m (by omega) (by omega) hm
          rcases hr with ⟨q, h, rfl⟩ | ⟨h, rfl⟩
          · rw [(pads_last h).2] at hm
            exact fin_pads hbd.1 hbd.2 q (Option.some.inj hm).symm h
          · exact fin_none hbd.1 hbd.2 h
        · rcases hr with ⟨q, h, _⟩ | ⟨_, h⟩
          · rw [(pads_last h).2] at hn; cases hn
          · exact h
    · have hre : r = (⟨#[]⟩, false) := by
        rcases hr with ⟨q, h, _⟩ | ⟨_, h⟩
        · have := (pads_last h).1; omega
        · exact h
      refine Ev.congr (fun k => by unfold spec_UnpadText.f; rw [if_neg (by omega), if_neg hz]) ?_
      refine ⟨1, fun k hk => ?_⟩
      obtain ⟨k, rfl⟩ : ∃ m, k = m + 1 := ⟨k - 1, by omega⟩
      simp only [spec_UnpadText.j0]
      rw [if_pos trivial, hre]
  · by_cases h9 : 9 ≤ s.size
    · have hw : wrap64 ((s.size : Int) - 72) = (s.size : Int) - 72 := by unfold wrap64; omega
      have hmx : mx 0 (wrap64 ((s.size : Int) - 72)) = ((s.size - 72 : Nat) : Int) := by rw [hw]; unfold mx; split <;> omega
      refine Ev.congr (fun k => by unfold impl_UnpadText.f; rw [if_neg (by omega), hmx]) ?_
      exact impl_end s h9 h67 r _ rfl hr (min 600 (s.size - 9) + 1 - (s.size - 72)) (s.size - 72) (by omega) (fun q h => by have := (pads_last h).1; omega)
    · have hre : r = (⟨#[]⟩, false) := by
        rcases hr with ⟨q, h, _⟩ | ⟨_, h⟩
        · have := (pads_last h).1; omega
        · exact h
      have hw : wrap64 ((s.size : Int) - 72) = (s.size : Int) - 72 := by unfold wrap64; omega
      have hw9 : wrap64 ((s.size : Int) - 9) = (s.size : Int) - 9 := by unfold wrap64; omega
      have hmx : mx 0 (wrap64 ((s.size : Int) - 72)) = 0 := by rw [hw]; unfold mx; split <;> omega
      have hmn : mn 600 (wrap64 ((s.size : Int) - 9)) = (s.size : Int) - 9 := by rw [hw9]; unfold mn; split <;> omega
      refine Ev.congr (fun k => by unfold impl_UnpadText.f; rw [if_neg (by omega), hmx]) ?_
      refine ⟨1, fun k hk => ?_⟩
      obtain ⟨k, rfl⟩ : ∃ m, k = m + 1 := ⟨k - 1, by omega⟩
      simp only [impl_UnpadText.l0, hmn]
      rw [if_neg (by omega), hre]

theorem FnExactUnpadText : laws_FnExactUnpadText.Pure := by
  intro s _
  by_cases h : (s.size : Int) > 1048576
  · exact ⟨0, by unfold laws_FnExactUnpadText.f; rw [if_pos h]⟩
  by_cases h6 : s.size ≤ 672
  · obtain ⟨r, h1, h2⟩ := both_end s h6
    refine Ev.rounds (Ev.congr (fun k => by unfold laws_FnExactUnpadText.f; rw [if_neg h]) ?_)
    refine Ev.bind h1 (Ev.bind h2 ?_)
    simp only [if_true, bne_self_eq_false, Bool.false_eq_true, if_false]
    exact Ev.now _
  · have h1 : Ev (fun k => spec_UnpadText.f k s) (⟨#[]⟩, false) := by
      refine Ev.congr (fun k => by unfold spec_UnpadText.f; rw [if_pos (by omega)]) ?_
      refine ⟨1, fun k hk => ?_⟩
      obtain ⟨k, rfl⟩ : ∃ m, k = m + 1 := ⟨k - 1, by omega⟩
      simp only [spec_UnpadText.j0]
      rw [if_pos trivial]
    have h2 : Ev (fun k => impl_UnpadText.f k s) (⟨#[]⟩, false) := Ev.congr (fun k => by unfold impl_UnpadText.f; rw [if_pos (by omega)]) (Ev.now _)
    refine Ev.rounds (Ev.congr (fun k => by unfold laws_FnExactUnpadText.f; rw [if_neg h]) ?_)
    refine Ev.bind h1 (Ev.bind h2 ?_)
    simp only [if_true, bne_self_eq_false, Bool.false_eq_true, if_false]
    exact Ev.now _


end Go.Proofs.Ytkoalnbcoggabaa.Pure
