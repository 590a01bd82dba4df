/- The law FnExactSignsOf answers true for every string. No condition. -/
import Derived.Test.YtmajmplhojlhbaaSFnExactSignsOfx1
import Derived.Laws.BitsLemmas
import Derived.Laws.Bits64
namespace Go.Proofs.Ytmajmplhojlhbaa.Pure
open Go.RowKit Go.Proofs.Ytmajmplhojlhbaa.SFnExactSignsOf Go.Proofs.YtmajmplhojlhbaaW.PrintWords Go.Proofs.YtmajmplhojlhbaaW.PrintLast Go.Proofs.YtmajmplhojlhbaaW.PrintMore

theorem nums_str (l : List UInt8) : strOfNums (l.map fun b => (b.toNat : Int)) = ⟨l.toArray⟩ := by
  unfold strOfNums
  rw [List.map_map]
  congr 2
  have e : ((fun n : Int => UInt8.ofNat n.toNat) ∘ fun b : UInt8 => (b.toNat : Int)) = id := by
    funext b
    simp
  rw [e, List.map_id]


section
variable (s : ByteArray) (hs : s.size ≤ 1000000) (i : Nat) (hi : i < s.size)

/-- the group at i -/
def grp (s : ByteArray) (i : Nat) : List UInt8 := (s.data.toList.drop i).take 3

theorem grp_length : (grp s i).length = min 3 (s.size - i) := by
  have := Lib.size_eq s
  unfold grp
  rw [List.length_take, List.length_drop, ← this]

theorem grp_at (j : Nat) (hj : j < 3) (hij : i + j < s.size) : bt s ((i + j : Nat) : Int) = (((grp s i).getD j 0).toNat : Int) := by
  rw [sg_bt s (i + j) hij]
  unfold grp
  rw [List.getD_eq_getElem?_getD, List.getD_eq_getElem?_getD, List.getElem?_take_of_lt hj, List.getElem?_drop]

theorem sgN_lt2 (g : List UInt8) (j : Nat) (hj : j ≤ 2) : sgN g j < 65536 := by
  have h1 := sgN_lt g j
  have h2 : 256 ^ j ≤ 256 ^ 2 := Nat.pow_le_pow_right (by omega) hj
  exact Nat.lt_of_lt_of_le h1 h2
theorem sgN_lt3 (g : List UInt8) : sgN g 3 < 16777216 := sgN_lt g 3

include hs hi in
theorem l1_run (acc : List Int) (r : ByteArray) (h : Ev (fun k => spec_l3Signs.l2 k s acc (i : Int) (sgN (grp s i) 3 : Int) ((grp s i).length : Int) 0) r) :
    ∀ (d j : Nat), j + d = 3 → Ev (fun k => spec_l3Signs.l1 k s acc (i : Int) (sgN (grp s i) j : Int) ((grp s i).length : Int) (j : Int)) r := by
  intro d
  induction d with
  | zero =>
    intro j hj
    obtain rfl : j = 3 := by omega
    refine Ev.step (fun k => ?_) h
    simp only [spec_l3Signs.l1]
    rw [if_neg (by omega)]
  | succ d ih =>
    intro j hj
    have hl := grp_length s i
    have hnb := sgN_lt2 (grp s i) j (by omega)
    have h' := ih (j + 1) (by omega)
    rw [sgN] at h'
    clear ih h
    have hat := grp_at s i j (by omega)
    generalize (grp s i).getD j 0 = B at h' hat
    generalize sgN (grp s i) j = n at h' hnb ⊢
    generalize (grp s i).length = L at h' hl ⊢
    have hwj : wrap64 ((j : Int) + 1) = ((j + 1 : Nat) : Int) := by unfold wrap64; omega
    have hwm : wrap64 ((n : Int) * 256) = (n : Int) * 256 := by unfold wrap64; omega
    refine Ev.step (fun k => ?_) h'
    simp only [spec_l3Signs.l1, hwm, hwj]
    have c3 : (j : Int) < 3 := by omega
    rw [if_pos c3]
    by_cases hjm : j < L
    · have hwi : wrap64 ((i : Int) + (j : Int)) = ((i + j : Nat) : Int) := by unfold wrap64; omega
      have hb := hat (by omega)
      have hB := B.toNat_lt
      have hwb : wrap64 (bt s ((i + j : Nat) : Int)) = (B.toNat : Int) := by rw [hb]; unfold wrap64; omega
      have c4 : (j : Int) < (L : Int) := by omega
      have c5 : (0 : Int) ≤ ((i + j : Nat) : Int) := by omega
      have c6 : ((i + j : Nat) : Int) < (s.size : Int) := by omega
      rw [if_pos c4, hwi, if_pos c5, if_pos c6, hwb, sg_or _ _ (by omega) (by omega) (by omega) (by omega), if_pos hjm]
      have e : (n : Int) * 256 + (B.toNat : Int) = ((n * 256 + B.toNat : Nat) : Int) := by simp
      rw [e]
    · have c4 : ¬ (j : Int) < (L : Int) := by omega
      have e : (n : Int) * 256 = ((n * 256 + 0 : Nat) : Int) := by simp
      rw [if_neg c4, if_neg hjm, e]

omit hs hi in
theorem l2_sh (j : Nat) (hj : j < 4) : IntKind.u64.wrap (wrap64 (18 - wrap64 (6 * (j : Int)))) = ((18 - 6 * j : Nat) : Int) := by
  have h6 : wrap64 (6 * (j : Int)) = 6 * (j : Int) := by unfold wrap64; omega
  have h7 : wrap64 (18 - 6 * (j : Int)) = 18 - 6 * (j : Int) := by unfold wrap64; omega
  rw [h6, h7, IntKind.wrap_u64]
  omega
omit hs hi in
theorem l2_shr (n j : Nat) (hj : j < 4) : shr .i64 (n : Int) ((18 - 6 * j : Nat) : Int) = ((n / 2 ^ (18 - 6 * j) : Nat) : Int) := by
  unfold shr
  rw [Int.toNat_natCast, Nat.min_eq_left (show 18 - 6 * j ≤ IntKind.i64.bits by show 18 - 6 * j ≤ 64; omega)]
  simp
omit hs hi in
theorem l2_and (z : Nat) (hz : z < 16777216) : Go.bits .and .i64 (z : Int) 63 = ((z % 64 : Nat) : Int) := by
  rw [sg_and _ (by omega) (by omega)]
  simp
omit hs hi in
theorem l2_step (j : Nat) (hj : j < 4) (A : List Int) (hlen : A.length < 140737488355328) (n : Nat) (hn : n < 16777216) (L : Nat) (r : ByteArray)
    (h' : Ev (fun k => spec_l3Signs.l2 k s (A ++ [((if L < j then 61 else sgT (n / 2 ^ (18 - 6 * j) % 64) : UInt8).toNat : Int)]) (i : Int) (n : Int) (L : Int) ((j + 1 : Nat) : Int)) r) (hdl : n / 2 ^ (18 - 6 * j) ≤ n) :
    Ev (fun k => spec_l3Signs.l2 k s A (i : Int) (n : Int) (L : Int) (j : Int)) r := by
  have hwj : wrap64 ((j : Int) + 1) = ((j + 1 : Nat) : Int) := by unfold wrap64; omega
  have c3 : (j : Int) < 4 := by omega
  by_cases hjm : L < j
  · have c4 : ¬ (j : Int) ≤ (L : Int) := by omega
    rw [if_pos hjm] at h'
    refine Ev.step (fun k => ?_) h'
    simp only [spec_l3Signs.l2, hwj]
    rw [if_pos c3, if_neg c4, if_pos hlen]
    rfl
  · have c4 : (j : Int) ≤ (L : Int) := by omega
    rw [if_neg hjm] at h'
    have c5 : (0 : Int) ≤ ((18 - 6 * j : Nat) : Int) := by omega
    have hz : n / 2 ^ (18 - 6 * j) < 16777216 := Nat.lt_of_le_of_lt hdl hn
    have hsh := l2_sh j hj
    have hshr := l2_shr n j hj
    generalize n / 2 ^ (18 - 6 * j) = z at h' hz hshr
    have ha := l2_and z hz
    have c6 : (0 : Int) ≤ ((z % 64 : Nat) : Int) := Int.natCast_nonneg _
    have c7 : ((z % 64 : Nat) : Int) < 64 := by clear hsh hshr ha h'; omega
    have hlet := sg_letter_at _ c6 c7
    refine Ev.step (fun k => ?_) h'
    simp only [spec_l3Signs.l2, hwj]
    rw [if_pos c3, if_pos c4, hsh, if_pos c5, hshr, ha, if_pos c6, if_pos c7, if_pos hlen, hlet, Int.toNat_natCast]

include hs hi in
theorem l2_run (acc : List Int) (hacc : acc.length ≤ 5000000) (r : ByteArray) (h : Ev (fun k => spec_l3Signs.l0 k s (acc ++ (sgG (grp s i)).map fun b => (b.toNat : Int)) ((i + 3 : Nat) : Int)) r) :
    ∀ (d j : Nat), j + d = 4 → Ev (fun k => spec_l3Signs.l2 k s (acc ++ ((sgG (grp s i)).take j).map fun b => (b.toNat : Int)) (i : Int) (sgN (grp s i) 3 : Int) ((grp s i).length : Int) (j : Int)) r := by
  intro d
  induction d with
  | zero =>
    intro j hj
    obtain rfl : j = 4 := by omega
    have hwi : wrap64 ((i : Int) + 3) = ((i + 3 : Nat) : Int) := by unfold wrap64; omega
    refine Ev.step (fun k => ?_) h
    simp only [spec_l3Signs.l2]
    rw [if_neg (by omega), hwi]
    rfl
  | succ d ih =>
    intro j hj
    have hnb := sgN_lt3 (grp s i)
    have hlen : (acc ++ ((sgG (grp s i)).take j).map fun b => (b.toNat : Int)).length < 140737488355328 := by
      simp [sgG]
      omega
    have h' := ih (j + 1) (by omega)
    rw [sg_take _ j (by omega), List.map_append, ← List.append_assoc] at h'
    clear ih h
    generalize acc ++ ((sgG (grp s i)).take j).map (fun b => (b.toNat : Int)) = A at h' hlen ⊢
    have hc : sgC (grp s i) j = (if (grp s i).length < j then 61 else sgT (sgN (grp s i) 3 / 2 ^ (18 - 6 * j) % 64)) := rfl
    rw [hc] at h'
    clear hc
    have hdl : sgN (grp s i) 3 / 2 ^ (18 - 6 * j) ≤ sgN (grp s i) 3 := Nat.div_le_self _ _
    exact l2_step s i j (by omega) A hlen (sgN (grp s i) 3) hnb (grp s i).length r h' hdl
end

theorem signs_loop (s : ByteArray) (hs : s.size ≤ 1000000) : ∀ (d i : Nat) (A : List UInt8), s.size ≤ i + d → i ≤ s.size + 3 → A ++ sgE (s.data.toList.drop i) = sgE s.data.toList →
    Ev (fun k => spec_l3Signs.l0 k s (A.map fun b => (b.toNat : Int)) (i : Int)) (⟨(sgE s.data.toList).toArray⟩ : ByteArray) := by
  intro d
  induction d using Nat.strongRecOn with
  | _ d ih =>
    intro i A hd hi hA
    have hsl := Lib.size_eq s
    by_cases hlt : i < s.size
    · have hne : s.data.toList.drop i ≠ [] := by
        intro h
        have := congrArg List.length h
        rw [List.length_drop, List.length_nil] at this
        omega
      have hstep := sgE_step _ hne
      rw [List.drop_drop] at hstep
      have hlenA : A.length ≤ 4000000 := by
        have h1 := congrArg List.length hA
        rw [List.length_append] at h1
        have h2 := sgE_length s.data.toList
        omega
      have hl := grp_length s i
      have h0 := ih (d - 3) (by omega) (i + 3) (A ++ sgG (grp s i)) (by omega) (by omega) (by
        rw [List.append_assoc]
        show A ++ (sgG ((s.data.toList.drop i).take 3) ++ _) = _
        rw [← hstep]
        exact hA)
      rw [List.map_append] at h0
      have h2 := l2_run s hs i hlt (A.map fun b => (b.toNat : Int)) (by simp; omega) _ h0 4 0 (by omega)
      rw [List.take_zero, List.map_nil, List.append_nil] at h2
      have h1 := l1_run s hs i hlt (A.map fun b => (b.toNat : Int)) _ h2 3 0 (by omega)
      refine Ev.step (fun k => ?_) h1
      simp only [spec_l3Signs.l0]
      have hw : wrap64 ((s.size : Int) - (i : Int)) = (s.size : Int) - (i : Int) := by unfold wrap64; omega
      rw [if_pos (by omega), hw]
      unfold spec_l1Least.f
      by_cases h3 : (3 : Int) < (s.size : Int) - (i : Int)
      · rw [if_pos h3, Option.bind_some]
        have e : ((grp s i).length : Int) = 3 := by omega
        rw [e]
        rfl
      · rw [if_neg h3, Option.bind_some]
        have e : ((grp s i).length : Int) = (s.size : Int) - (i : Int) := by omega
        rw [e]
        rfl
    · rw [List.drop_eq_nil_of_le (by omega)] at hA
      have hA2 : A = sgE s.data.toList := by simpa [sgE, sgL] using hA
      refine Ev.step (f := fun _ => some _) (fun k => ?_) (Ev.now _)
      simp only [spec_l3Signs.l0]
      rw [if_neg (by omega), hA2, nums_str]

theorem signs_ev (s : ByteArray) (hs : s.size ≤ 1000000) : Ev (fun k => spec_l3Signs.f k s) (⟨(sgE s.data.toList).toArray⟩ : ByteArray) :=
  signs_loop s hs s.size 0 [] (by omega) (by omega) (by simp)


theorem both_ev (s : ByteArray) : ∃ r, Ev (fun k => spec_SignsOf.f k s) r ∧ impl_SignsOf.f s = some r := by
  unfold spec_SignsOf.f impl_SignsOf.f
  by_cases h : (s.size : Int) > 600
  · simp only [if_pos h]
    exact ⟨_, Ev.now _, rfl⟩
  · simp only [if_neg h]
    refine ⟨((⟨(sgE s.data.toList).toArray⟩ : ByteArray), true), Ev.bind (signs_ev s (by omega)) (Ev.now _), ?_⟩
    unfold impl_signsOf.f
    rw [if_pos (by omega)]
    rfl

theorem FnExactSignsOf : laws_FnExactSignsOf.Pure := by
  intro s _
  obtain ⟨r, hs, hi⟩ := both_ev s
  by_cases h : (s.size : Int) > 1048576
  · exact ⟨0, by unfold laws_FnExactSignsOf.f; rw [if_pos h]⟩
  · refine Ev.rounds (Ev.congr (fun k => by unfold laws_FnExactSignsOf.f; rw [if_neg h, hi]) (Ev.bind hs ?_))
    simp only [Option.bind_some, if_true, bne_self_eq_false, Bool.false_eq_true, if_false]
    exact Ev.now _

end Go.Proofs.Ytmajmplhojlhbaa.Pure
