/- The law FnExactArmorOf answers true for all strings. No condition. -/
import Derived.Test.YtmajmplhojlhbaaSFnExactArmorOfx3
import Derived.Laws.BitsLemmas
import Derived.Laws.Bits64
namespace Go.Proofs.Ytmajmplhojlhbaa.Pure
open Go.RowKit Go.Proofs.Ytmajmplhojlhbaa.SFnExactArmorOf Go.Proofs.YtmajmplhojlhbaaW.PrintWords Go.Proofs.YtmajmplhojlhbaaW.PrintLast Go.Proofs.YtmajmplhojlhbaaW.PrintMore

theorem nums_str (l : List UInt8) : strOfNums (l.map fun b => (b.toNat : Int)) = ⟨l.toArray⟩ := by
  unfold strOfNums
  rw [List.map_map]
  congr 2
  have e : ((fun n : Int => UInt8.ofNat n.toNat) ∘ fun b : UInt8 => (b.toNat : Int)) = id := by
    funext b
    simp
  rw [e, List.map_id]


section
variable (s : ByteArray) (hs : s.size ≤ 1000000) (i : Nat) (hi : i < s.size)

/-- the group at i -/
def grp (s : ByteArray) (i : Nat) : List UInt8 := (s.data.toList.drop i).take 3

theorem grp_length : (grp s i).length = min 3 (s.size - i) := by
  have := Lib.size_eq s
  unfold grp
  rw [List.length_take, List.length_drop, ← this]

theorem grp_at (j : Nat) (hj : j < 3) (hij : i + j < s.size) : bt s ((i + j : Nat) : Int) = (((grp s i).getD j 0).toNat : Int) := by
  rw [sg_bt s (i + j) hij]
  unfold grp
  rw [List.getD_eq_getElem?_getD, List.getD_eq_getElem?_getD, List.getElem?_take_of_lt hj, List.getElem?_drop]

theorem sgN_lt2 (g : List UInt8) (j : Nat) (hj : j ≤ 2) : sgN g j < 65536 := by
  have h1 := sgN_lt g j
  have h2 : 256 ^ j ≤ 256 ^ 2 := Nat.pow_le_pow_right (by omega) hj
  exact Nat.lt_of_lt_of_le h1 h2
theorem sgN_lt3 (g : List UInt8) : sgN g 3 < 16777216 := sgN_lt g 3

include hs hi in
theorem l1_run (acc : List Int) (r : ByteArray) (h : Ev (fun k => spec_l3Signs.l2 k s acc (i : Int) (sgN (grp s i) 3 : Int) ((grp s i).length : Int) 0) r) :
    ∀ (d j : Nat), j + d = 3 → Ev (fun k => spec_l3Signs.l1 k s acc (i : Int) (sgN (grp s i) j : Int) ((grp s i).length : Int) (j : Int)) r := by
  intro d
  induction d with
  | zero =>
    intro j hj
    obtain rfl : j = 3 := by omega
    refine Ev.step (fun k => ?_) h
    simp only [spec_l3Signs.l1]
    rw [if_neg (by omega)]
  | succ d ih =>
    intro j hj
    have hl := grp_length s i
    have hnb := sgN_lt2 (grp s i) j (by omega)
    have h' := ih (j + 1) (by omega)
    rw [sgN] at h'
    clear ih h
    have hat := grp_at s i j (by omega)
    generalize (grp s i).getD j 0 = B at h' hat
    generalize sgN (grp s i) j = n at h' hnb ⊢
    generalize (grp s i).length = L at h' hl ⊢
    have hwj : wrap64 ((j : Int) + 1) = ((j + 1 : Nat) : Int) := by unfold wrap64; omega
    have hwm : wrap64 ((n : Int) * 256) = (n : Int) * 256 := by unfold wrap64; omega
    refine Ev.step (fun k => ?_) h'
    simp only [spec_l3Signs.l1, hwm, hwj]
    have c3 : (j : Int) < 3 := by omega
    rw [if_pos c3]
    by_cases hjm : j < L
    · have hwi : wrap64 ((i : Int) + (j : Int)) = ((i + j : Nat) : Int) := by unfold wrap64; omega
      have hb := hat (by omega)
      have hB := B.toNat_lt
      have hwb : wrap64 (bt s ((i + j : Nat) : Int)) = (B.toNat : Int) := by rw [hb]; unfold wrap64; omega
      have c4 : (j : Int) < (L : Int) := by omega
      have c5 : (0 : Int) ≤ ((i + j : Nat) : Int) := by omega
      have c6 : ((i + j : Nat) : Int) < (s.size : Int) := by omega
      rw [if_pos c4, hwi, if_pos c5, if_pos c6, hwb, sg_or _ _ (by omega) (by omega) (by omega) (by omega), if_pos hjm]
      have e : (n : Int) * 256 + (B.toNat : Int) = ((n * 256 + B.toNat : Nat) : Int) := by simp
      rw [e]
    · have c4 : ¬ (j : Int) < (L : Int) := by omega
      have e : (n : Int) * 256 = ((n * 256 + 0 : Nat) : Int) := by simp
      rw [if_neg c4, if_neg hjm, e]

omit hs hi in
theorem l2_sh (j : Nat) (hj : j < 4) : IntKind.u64.wrap (wrap64 (18 - wrap64 (6 * (j : Int)))) = ((18 - 6 * j : Nat) : Int) := by
  have h6 : wrap64 (6 * (j : Int)) = 6 * (j : Int) := by unfold wrap64; omega
  have h7 : wrap64 (18 - 6 * (j : Int)) = 18 - 6 * (j : Int) := by unfold wrap64; omega
  rw [h6, h7, IntKind.wrap_u64]
  omega
omit hs hi in
theorem l2_shr (n j : Nat) (hj : j < 4) : shr .i64 (n : Int) ((18 - 6 * j : Nat) : Int) = ((n / 2 ^ (18 - 6 * j) : Nat) : Int) := by
  unfold shr
  rw [Int.toNat_natCast, Nat.min_eq_left (show 18 - 6 * j ≤ IntKind.i64.bits by show 18 - 6 * j ≤ 64; omega)]
  simp
omit hs hi in
theorem l2_and (z : Nat) (hz : z < 16777216) : Go.bits .and .i64 (z : Int) 63 = ((z % 64 : Nat) : Int) := by
  rw [sg_and _ (by omega) (by omega)]
  simp
omit hs hi in
theorem l2_step (j : Nat) (hj : j < 4) (A : List Int) (hlen : A.length < 140737488355328) (n : Nat) (hn : n < 16777216) (L : Nat) (r : ByteArray)
    (h' : Ev (fun k => spec_l3Signs.l2 k s (A ++ [((if L < j then 61 else sgT (n / 2 ^ (18 - 6 * j) % 64) : UInt8).toNat : Int)]) (i : Int) (n : Int) (L : Int) ((j + 1 : Nat) : Int)) r) (hdl : n / 2 ^ (18 - 6 * j) ≤ n) :
    Ev (fun k => spec_l3Signs.l2 k s A (i : Int) (n : Int) (L : Int) (j : Int)) r := by
  have hwj : wrap64 ((j : Int) + 1) = ((j + 1 : Nat) : Int) := by unfold wrap64; omega
  have c3 : (j : Int) < 4 := by omega
  by_cases hjm : L < j
  · have c4 : ¬ (j : Int) ≤ (L : Int) := by omega
    rw [if_pos hjm] at h'
    refine Ev.step (fun k => ?_) h'
    simp only [spec_l3Signs.l2, hwj]
    rw [if_pos c3, if_neg c4, if_pos hlen]
    rfl
  · have c4 : (j : Int) ≤ (L : Int) := by omega
    rw [if_neg hjm] at h'
    have c5 : (0 : Int) ≤ ((18 - 6 * j : Nat) : Int) := by omega
    have hz : n / 2 ^ (18 - 6 * j) < 16777216 := Nat.lt_of_le_of_lt hdl hn
    have hsh := l2_sh j hj
    have hshr := l2_shr n j hj
    generalize n / 2 ^ (18 - 6 * j) = z at h' hz hshr
    have ha := l2_and z hz
    have c6 : (0 : Int) ≤ ((z % 64 : Nat) : Int) := Int.natCast_nonneg _
    have c7 : ((z % 64 : Nat) : Int) < 64 := by clear hsh hshr ha h'; omega
    have hlet := sg_letter_at _ c6 c7
    refine Ev.step (fun k => ?_) h'
    simp only [spec_l3Signs.l2, hwj]
    rw [if_pos c3, if_pos c4, hsh, if_pos c5, hshr, ha, if_pos c6, if_pos c7, if_pos hlen, hlet, Int.toNat_natCast]

include hs hi in
theorem l2_run (acc : List Int) (hacc : acc.length ≤ 5000000) (r : ByteArray) (h : Ev (fun k => spec_l3Signs.l0 k s (acc ++ (sgG (grp s i)).map fun b => (b.toNat : Int)) ((i + 3 : Nat) : Int)) r) :
    ∀ (d j : Nat), j + d = 4 → Ev (fun k => spec_l3Signs.l2 k s (acc ++ ((sgG (grp s i)).take j).map fun b => (b.toNat : Int)) (i : Int) (sgN (grp s i) 3 : Int) ((grp s i).length : Int) (j : Int)) r := by
  intro d
  induction d with
  | zero =>
    intro j hj
    obtain rfl : j = 4 := by omega
    have hwi : wrap64 ((i : Int) + 3) = ((i + 3 : Nat) : Int) := by unfold wrap64; omega
    refine Ev.step (fun k => ?_) h
    simp only [spec_l3Signs.l2]
    rw [if_neg (by omega), hwi]
    rfl
  | succ d ih =>
    intro j hj
    have hnb := sgN_lt3 (grp s i)
    have hlen : (acc ++ ((sgG (grp s i)).take j).map fun b => (b.toNat : Int)).length < 140737488355328 := by
      simp [sgG]
      omega
    have h' := ih (j + 1) (by omega)
    rw [sg_take _ j (by omega), List.map_append, ← List.append_assoc] at h'
    clear ih h
    generalize acc ++ ((sgG (grp s i)).take j).map (fun b => (b.toNat : Int)) = A at h' hlen ⊢
    have hc : sgC (grp s i) j = (if (grp s i).length < j then 61 else sgT (sgN (grp s i) 3 / 2 ^ (18 - 6 * j) % 64)) := rfl
    rw [hc] at h'
    clear hc
    have hdl : sgN (grp s i) 3 / 2 ^ (18 - 6 * j) ≤ sgN (grp s i) 3 := Nat.div_le_self _ _
    exact l2_step s i j (by omega) A hlen (sgN (grp s i) 3) hnb (grp s i).length r h' hdl
end

theorem signs_loop (s : ByteArray) (hs : s.size ≤ 1000000) : ∀ (d i : Nat) (A : List UInt8), s.size ≤ i + d → i ≤ s.size + 3 → A ++ sgE (s.data.toList.drop i) = sgE s.data.toList →
    Ev (fun k => spec_l3Signs.l0 k s (A.map fun b => (b.toNat : Int)) (i : Int)) (⟨(sgE s.data.toList).toArray⟩ : ByteArray) := by
  intro d
  induction d using Nat.strongRecOn with
  | _ d ih =>
    intro i A hd hi hA
    have hsl := Lib.size_eq s
    by_cases hlt : i < s.size
    · have hne : s.data.toList.drop i ≠ [] := by
        intro h
        have := congrArg List.length h
        rw [List.length_drop, List.length_nil] at this
        omega
      have hstep := sgE_step _ hne
      rw [List.drop_drop] at hstep
      have hlenA : A.length ≤ 4000000 := by
        have h1 := congrArg List.length hA
        rw [List.length_append] at h1
        have h2 := sgE_length s.data.toList
        omega
      have hl := grp_length s i
      have h0 := ih (d - 3) (by omega) (i + 3) (A ++ sgG (grp s i)) (by omega) (by omega) (by
        rw [List.append_assoc]
        show A ++ (sgG ((s.data.toList.drop i).take 3) ++ _) = _
        rw [← hstep]
        exact hA)
      rw [List.map_append] at h0
      have h2 := l2_run s hs i hlt (A.map fun b => (b.toNat : Int)) (by simp; omega) _ h0 4 0 (by omega)
      rw [List.take_zero, List.map_nil, List.append_nil] at h2
      have h1 := l1_run s hs i hlt (A.map fun b => (b.toNat : Int)) _ h2 3 0 (by omega)
      refine Ev.step (fun k => ?_) h1
      simp only [spec_l3Signs.l0]
      have hw : wrap64 ((s.size : Int) - (i : Int)) = (s.size : Int) - (i : Int) := by unfold wrap64; omega
      rw [if_pos (by omega), hw]
      unfold spec_l1Least.f
      by_cases h3 : (3 : Int) < (s.size : Int) - (i : Int)
      · rw [if_pos h3, Option.bind_some]
        have e : ((grp s i).length : Int) = 3 := by omega
        rw [e]
        rfl
      · rw [if_neg h3, Option.bind_some]
        have e : ((grp s i).length : Int) = (s.size : Int) - (i : Int) := by omega
        rw [e]
        rfl
    · rw [List.drop_eq_nil_of_le (by omega)] at hA
      have hA2 : A = sgE s.data.toList := by simpa [sgE, sgL] using hA
      refine Ev.step (f := fun _ => some _) (fun k => ?_) (Ev.now _)
      simp only [spec_l3Signs.l0]
      rw [if_neg (by omega), hA2, nums_str]

theorem signs_ev (s : ByteArray) (hs : s.size ≤ 1000000) : Ev (fun k => spec_l3Signs.f k s) (⟨(sgE s.data.toList).toArray⟩ : ByteArray) :=
  signs_loop s hs s.size 0 [] (by omega) (by omega) (by simp)


theorem lines_loop (s : ByteArray) (hs : s.size ≤ 800) (wide : Nat) (hw0 : 0 < wide) (hw : wide ≤ 100) : ∀ (d i : Nat) (acc : List ByteArray), i ≤ s.size → s.size - i ≤ d → acc.length ≤ i → (∀ e ∈ acc, e.size ≤ 800) →
    ∃ r, r.length ≤ 800 ∧ (∀ e ∈ r, e.size ≤ 800) ∧ Ev (fun k => spec_l3Lines.l0 k s (wide : Int) acc (i : Int)) r ∧ Ev (fun k => impl_linesOf.l0 k (s.extract i s.size) (wide : Int) acc) r := by
  intro d
  induction d with
  | zero =>
    intro i acc hi hd ha hb
    obtain rfl : i = s.size := by omega
    refine ⟨acc, by omega, hb, Ev.step (f := fun _ => some _) (fun k => ?_) (Ev.now _), Ev.step (f := fun _ => some _) (fun k => ?_) (Ev.now _)⟩
    · simp only [spec_l3Lines.l0]
      rw [if_neg (by omega)]
    · simp only [impl_linesOf.l0]
      rw [if_pos (by rw [Lib.extract_toList]; simp)]
  | succ d ih =>
    intro i acc hi hd ha hb
    by_cases hlt : i < s.size
    · have hne : ¬ (s.extract i s.size).toList = ([] : List UInt8) := by
        intro h
        have := congrArg List.length h
        rw [Lib.extract_toList] at this
        have hsz := Lib.size_eq s
        simp at this
        simp at hsz
        omega
      have hwi : wrap64 ((i : Int) + (wide : Int)) = ((i + wide : Nat) : Int) := by unfold wrap64; omega
      have hex : (s.extract i s.size).size = s.size - i := by rw [ByteArray.size_extract]; omega
      have hbb : ∀ j, ∀ e ∈ acc ++ [s.extract i j], e.size ≤ 800 := by
        intro j e he
        rcases List.mem_append.mp he with h | h
        · exact hb e h
        · simp only [List.mem_singleton] at h
          subst h
          rw [ByteArray.size_extract]
          omega
      by_cases hlast : s.size < i + wide
      · -- the last line
        refine ⟨acc ++ [s.extract i s.size], by simp; omega, hbb _, ?_, ?_⟩
        · refine Ev.step (f := fun k => spec_l3Lines.l0 k s (wide : Int) (acc ++ [s.extract i s.size]) ((i + wide : Nat) : Int)) (fun k => ?_) (Ev.step (f := fun _ => some _) (fun k => ?_) (Ev.now _))
          · simp only [spec_l3Lines.l0, hwi, spec_l1Least.f]
            rw [if_pos (by omega), if_pos (by omega)]
            simp only [Option.bind_some]
            rw [if_pos (by omega), if_pos (by omega), if_pos (by omega), if_pos (by omega)]
            simp
          · simp only [spec_l3Lines.l0]
            rw [if_neg (by omega)]
        · have hmn : mn (wide : Int) (((s.extract i s.size).size : Nat) : Int) = ((s.size - i : Nat) : Int) := by rw [hex]; unfold mn; rw [if_pos (by omega)]
          refine Ev.step (f := fun k => impl_linesOf.l0 k ((s.extract i s.size).extract (s.size - i) (s.size - i)) (wide : Int) (acc ++ [s.extract i s.size])) (fun k => ?_) (Ev.step (f := fun _ => some _) (fun k => ?_) (Ev.now _))
          · simp only [impl_linesOf.l0, hmn]
            rw [if_neg hne, if_pos (by omega), if_pos (by rw [hex]; exact Int.le_refl _), if_pos (by omega), hex, Int.toNat_natCast]
            congr 2
            rw [ByteArray.extract_extract]
            congr 2
            omega
          · simp only [impl_linesOf.l0]
            rw [if_pos (by rw [Lib.extract_toList]; simp)]
      · obtain ⟨r, hr, hrb, h1, h2⟩ := ih (i + wide) (acc ++ [s.extract i (i + wide)]) (by omega) (by omega) (by simp; omega) (hbb _)
        refine ⟨r, hr, hrb, Ev.step (fun k => ?_) h1, Ev.step (fun k => ?_) h2⟩
        · simp only [spec_l3Lines.l0, hwi, spec_l1Least.f]
          rw [if_pos (by omega), if_neg (by omega)]
          simp only [Option.bind_some]
          rw [if_pos (by omega), if_pos (by omega), if_pos (by omega), if_pos (by omega), Int.toNat_natCast, Int.toNat_natCast]
        · have hmn : mn (wide : Int) (((s.extract i s.size).size : Nat) : Int) = (wide : Int) := by rw [hex]; unfold mn; rw [if_neg (by omega)]
          simp only [impl_linesOf.l0, hmn]
          rw [if_neg hne, if_pos (by omega), if_pos (by rw [hex]; omega), if_pos (by omega), hex, Int.toNat_natCast, ByteArray.extract_extract, ByteArray.extract_extract]
          have e1 : min (i + (s.size - i)) s.size = s.size := by omega
          have e2 : min (i + wide) s.size = i + wide := by omega
          rw [e1, e2]
          rfl
    · obtain rfl : i = s.size := by omega
      exact ih s.size acc hi (by omega) ha hb

theorem lines_ev (s : ByteArray) (hs : s.size ≤ 800) : ∃ r, r.length ≤ 800 ∧ (∀ e ∈ r, e.size ≤ 800) ∧ Ev (fun k => spec_l3Lines.f k s 64) r ∧ Ev (fun k => impl_linesOf.f k s 64) r := by
  obtain ⟨r, h1, h2, h3, h4⟩ := lines_loop s hs 64 (by omega) (by omega) s.size 0 [] (by omega) (by omega) (by simp) (by simp)
  have e : s.extract 0 s.size = s := by simp
  rw [e] at h4
  exact ⟨r, h1, h2, h3, h4⟩


theorem name_loop (s : ByteArray) (hs : s.size ≤ 2000000) : ∀ (d i : Nat), i + d = s.size → ∃ b, Ev (fun k => spec_l3Name.l0 k s (i : Int)) b ∧ Ev (fun k => impl_isArmorName.l0 k s (s.size : Int) (i : Int)) b ∧ (b = true → s.size ≤ 16) := by
  intro d
  induction d with
  | zero =>
    intro i hi
    have hn : ¬ (i : Int) < (s.size : Int) := by omega
    have hin : spec_l1In.f (s.size : Int) 1 16 = some (decide (1 ≤ s.size ∧ s.size ≤ 16)) := by
      unfold spec_l1In.f
      by_cases h : (s.size : Int) ≥ 1
      · rw [if_pos h]
        congr 1
        by_cases h2 : (s.size : Int) ≤ 16
        · rw [decide_eq_true h2, decide_eq_true (by omega)]
        · rw [decide_eq_false h2, decide_eq_false (by omega)]
      · rw [if_neg h, decide_eq_false (by omega)]
    have hwi : impl_within.f (s.size : Int) 1 16 = some (decide (1 ≤ s.size ∧ s.size ≤ 16)) := hin
    refine ⟨decide (1 ≤ s.size ∧ s.size ≤ 16), Ev.step (f := fun _ => some _) (fun k => ?_) (Ev.now _), Ev.step (f := fun _ => some _) (fun k => ?_) (Ev.now _), fun h => by simp at h; omega⟩
    · simp only [spec_l3Name.l0]
      rw [if_neg hn, hin]
      rfl
    · simp only [impl_isArmorName.l0]
      rw [if_neg hn, hwi]
      rfl
  | succ d ih =>
    intro i hi
    have c1 : (i : Int) < (s.size : Int) := by omega
    have c2 : (0 : Int) ≤ (i : Int) := by omega
    have hw : wrap64 ((i : Int) + 1) = ((i + 1 : Nat) : Int) := by unfold wrap64; omega
    by_cases h1 : bt s (i : Int) < 65
    · refine ⟨false, Ev.step (f := fun _ => some _) (fun k => ?_) (Ev.now _), Ev.step (f := fun _ => some _) (fun k => ?_) (Ev.now _), fun h => by cases h⟩
      · simp only [spec_l3Name.l0]; rw [if_pos c1, if_pos c2, if_pos h1]
      · simp only [impl_isArmorName.l0]; rw [if_pos c1, if_pos c2, if_pos c1, if_pos h1]
    · by_cases h2 : bt s (i : Int) > 90
      · refine ⟨false, Ev.step (f := fun _ => some _) (fun k => ?_) (Ev.now _), Ev.step (f := fun _ => some _) (fun k => ?_) (Ev.now _), fun h => by cases h⟩
        · simp only [spec_l3Name.l0]; rw [if_pos c1, if_pos c2, if_neg h1, if_pos h2]
        · simp only [impl_isArmorName.l0]; rw [if_pos c1, if_pos c2, if_pos c1, if_neg h1, if_pos h2]
      · obtain ⟨b, hs', hi', hb⟩ := ih (i + 1) (by omega)
        refine ⟨b, Ev.step (fun k => ?_) hs', Ev.step (fun k => ?_) hi', hb⟩
        · simp only [spec_l3Name.l0]; rw [if_pos c1, if_pos c2, if_neg h1, if_neg h2, hw]
        · simp only [impl_isArmorName.l0]; rw [if_pos c1, if_pos c2, if_pos c1, if_neg h1, if_neg h2, hw]

theorem name_ev (s : ByteArray) (hs : s.size ≤ 2000000) : ∃ b, Ev (fun k => spec_l3Name.f k s) b ∧ Ev (fun k => impl_isArmorName.f k s) b ∧ (b = true → s.size ≤ 16) :=
  name_loop s hs s.size 0 (by omega)


theorem sgE_size : ∀ (n : Nat) (l : List UInt8), l.length ≤ n → (sgE l).length = 4 * ((l.length + 2) / 3) := by
  intro n
  induction n using Nat.strongRecOn with
  | _ n ih =>
    intro l hl
    by_cases h : l = []
    · subst h; rfl
    · have hp : 0 < l.length := List.length_pos_iff.mpr h
      rw [sgE_step l h, List.length_append, ih (n - 1) (by omega) (l.drop 3) (by rw [List.length_drop]; omega), List.length_drop]
      have e4 : (sgG (l.take 3)).length = 4 := rfl
      omega

theorem armor_same : ∀ (k : Nat) (a b : ByteArray) (l : List ByteArray) (n i : Int), impl_armorOf.l0 k a b l n i = spec_l3Armor.l0 k a b l n i := by
  intro k
  induction k with
  | zero => intro a b l n i; rfl
  | succ k ih => intro a b l n i; simp only [impl_armorOf.l0, spec_l3Armor.l0, ih]

theorem armor_loop (a : ByteArray) (ha : a.size ≤ 16) (l : List ByteArray) (hl : l.length ≤ 800) (hb : ∀ e ∈ l, e.size ≤ 800) : ∀ (d i : Nat) (b : ByteArray), i + d = l.length → b.size ≤ 100 + 801 * i →
    ∃ r, Ev (fun k => spec_l3Armor.l0 k a b l (l.length : Int) (i : Int)) r := by
  intro d
  induction d with
  | zero =>
    intro i b hi hbs
    have c1 : ¬ (i : Int) < (l.length : Int) := by omega
    have s9 : (⟨#[45, 45, 45, 45, 45, 69, 78, 68, 32]⟩ : ByteArray).size = 9 := rfl
    refine ⟨((b ++ (⟨#[45, 45, 45, 45, 45, 69, 78, 68, 32]⟩ : ByteArray)) ++ a) ++ (⟨#[45, 45, 45, 45, 45, 10]⟩ : ByteArray), Ev.step (f := fun _ => some _) (fun k => ?_) (Ev.now _)⟩
    simp only [spec_l3Armor.l0]
    rw [if_neg c1, if_pos (by omega), if_pos (by rw [ByteArray.size_append, s9]; omega), if_pos (by rw [ByteArray.size_append, ByteArray.size_append, s9]; omega)]
  | succ d ih =>
    intro i b hi hbs
    have c1 : (i : Int) < (l.length : Int) := by omega
    have c2 : (0 : Int) ≤ (i : Int) := by omega
    have hw : wrap64 ((i : Int) + 1) = ((i + 1 : Nat) : Int) := by unfold wrap64; omega
    have he : (rdOf ByteArray.empty l (i : Int)).size ≤ 800 := by
      unfold rdOf
      rw [List.getD_eq_getElem?_getD, Int.toNat_natCast, List.getElem?_eq_getElem (by omega)]
      exact hb _ (List.getElem_mem _)
    have s1 : (⟨#[10]⟩ : ByteArray).size = 1 := rfl
    have hsum : (rdOf ByteArray.empty l (i : Int) ++ (⟨#[10]⟩ : ByteArray)).size = (rdOf ByteArray.empty l (i : Int)).size + 1 := by rw [ByteArray.size_append, s1]
    obtain ⟨r, hr⟩ := ih (i + 1) (b ++ (rdOf ByteArray.empty l (i : Int) ++ (⟨#[10]⟩ : ByteArray))) (by omega) (by rw [ByteArray.size_append, hsum]; omega)
    refine ⟨r, Ev.step (fun k => ?_) hr⟩
    simp only [spec_l3Armor.l0]
    rw [if_pos c1, if_pos c2, if_pos c1, if_pos (by omega), if_pos (by rw [hsum]; omega), hw]

theorem armor_ev (a s : ByteArray) (ha : a.size ≤ 16) (hs : s.size ≤ 600) : ∃ r, Ev (fun k => spec_l3Armor.f k a s) r ∧ Ev (fun k => impl_armorOf.f k a s) r := by
  have hsig := signs_ev s (by omega)
  have hsz : (⟨(sgE s.data.toList).toArray⟩ : ByteArray).size ≤ 800 := by
    show (sgE s.data.toList).toArray.size ≤ 800
    rw [List.size_toArray, sgE_size _ _ (Nat.le_refl _), ← Lib.size_eq]
    omega
  obtain ⟨l, hl, hb, h1, h2⟩ := lines_ev (⟨(sgE s.data.toList).toArray⟩ : ByteArray) hsz
  have s11 : (⟨#[45, 45, 45, 45, 45, 66, 69, 71, 73, 78, 32]⟩ : ByteArray).size = 11 := rfl
  have s6 : (⟨#[45, 45, 45, 45, 45, 10]⟩ : ByteArray).size = 6 := rfl
  obtain ⟨r, hr⟩ := armor_loop a ha l hl hb l.length 0 (((⟨#[45, 45, 45, 45, 45, 66, 69, 71, 73, 78, 32]⟩ : ByteArray) ++ a) ++ (⟨#[45, 45, 45, 45, 45, 10]⟩ : ByteArray)) (by omega) (by rw [ByteArray.size_append, ByteArray.size_append, s11, s6]; omega)
  replace hr : Ev (fun k => spec_l3Armor.l0 k a (((⟨#[45, 45, 45, 45, 45, 66, 69, 71, 73, 78, 32]⟩ : ByteArray) ++ a) ++ (⟨#[45, 45, 45, 45, 45, 10]⟩ : ByteArray)) l (l.length : Int) 0) r := hr
  have c1 : 11 + a.size ≤ 9223372036854775807 := by omega
  have c2 : ((⟨#[45, 45, 45, 45, 45, 66, 69, 71, 73, 78, 32]⟩ : ByteArray) ++ a).size + 6 ≤ 9223372036854775807 := by rw [ByteArray.size_append, s11]; omega
  have hsigi : impl_signsOf.f s = some (⟨(sgE s.data.toList).toArray⟩ : ByteArray) := by
    unfold impl_signsOf.f
    rw [if_pos (by omega)]
  refine ⟨r, Ev.congr (fun k => ?_) (Ev.bind hsig (f := fun k s' => (spec_l3Lines.f k s' 64).bind fun l => spec_l3Armor.l0 k a (((⟨#[45, 45, 45, 45, 45, 66, 69, 71, 73, 78, 32]⟩ : ByteArray) ++ a) ++ (⟨#[45, 45, 45, 45, 45, 10]⟩ : ByteArray)) l (l.length : Int) 0) (Ev.bind h1 (f := fun k l => spec_l3Armor.l0 k a (((⟨#[45, 45, 45, 45, 45, 66, 69, 71, 73, 78, 32]⟩ : ByteArray) ++ a) ++ (⟨#[45, 45, 45, 45, 45, 10]⟩ : ByteArray)) l (l.length : Int) 0) hr)), Ev.congr (fun k => ?_) (Ev.bind h2 (f := fun k l => spec_l3Armor.l0 k a (((⟨#[45, 45, 45, 45, 45, 66, 69, 71, 73, 78, 32]⟩ : ByteArray) ++ a) ++ (⟨#[45, 45, 45, 45, 45, 10]⟩ : ByteArray)) l (l.length : Int) 0) hr)⟩
  · unfold spec_l3Armor.f
    rw [if_pos c1, if_pos c2]
  · unfold impl_armorOf.f
    rw [if_pos c1, if_pos c2, hsigi, Option.bind_some]
    simp only [armor_same]


theorem both_ev (a s : ByteArray) (ha : a.size ≤ 2000000) : ∃ r, Ev (fun k => spec_ArmorOf.f k a s) r ∧ Ev (fun k => impl_ArmorOf.f k a s) r := by
  unfold spec_ArmorOf.f impl_ArmorOf.f
  obtain ⟨b, h1, h2, h3⟩ := name_ev a ha
  cases b with
  | false =>
    refine ⟨((⟨#[]⟩ : ByteArray), false), Ev.bind h1 ?_, Ev.bind h2 ?_⟩ <;> (simp only [Bool.false_eq_true, if_false]; exact Ev.now _)
  | true =>
    by_cases hs : (s.size : Int) > 600
    · refine ⟨((⟨#[]⟩ : ByteArray), false), Ev.bind h1 ?_, Ev.bind h2 ?_⟩ <;> (simp only [if_true, if_pos hs]; exact Ev.now _)
    · obtain ⟨r, h4, h5⟩ := armor_ev a s (h3 rfl) (by omega)
      refine ⟨(r, true), Ev.bind h1 ?_, Ev.bind h2 ?_⟩
      · simp only [if_true, if_neg hs]
        exact Ev.bind h4 (Ev.now _)
      · simp only [if_true, if_neg hs]
        exact Ev.bind h5 (Ev.now _)

theorem FnExactArmorOf : laws_FnExactArmorOf.Pure := by
  intro a s _ _
  by_cases h : (a.size : Int) > 1048576
  · exact ⟨0, by unfold laws_FnExactArmorOf.f; rw [if_pos h]⟩
  by_cases h2 : (s.size : Int) > 1048576
  · exact ⟨0, by unfold laws_FnExactArmorOf.f; rw [if_neg h, if_pos h2]⟩
  obtain ⟨r, hs, hi⟩ := both_ev a s (by omega)
  refine Ev.rounds (Ev.congr (fun k => by unfold laws_FnExactArmorOf.f; rw [if_neg h, if_neg h2]) (Ev.bind hs (Ev.bind hi ?_)))
  simp only [if_true, bne_self_eq_false, Bool.false_eq_true, if_false]
  exact Ev.now _

end Go.Proofs.Ytmajmplhojlhbaa.Pure
