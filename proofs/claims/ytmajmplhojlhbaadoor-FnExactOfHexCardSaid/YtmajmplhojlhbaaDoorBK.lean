/- What is known of the row that a conversion of a string to bytes makes: it reads as the string's bytes. No condition. -/
import Derived.Test.YtmajmplhojlhbaaDoorWWords
import Derived.Test.YtmajmplhojlhbaaDoorWMore
import Derived.Laws.IdiomStrings
import Derived.Lib.ConvBytes
import Derived.Lib.SmallJoins
set_option linter.unusedVariables false
namespace Go.Proofs.YtmajmplhojlhbaaDoorW.PrintWords
open Go.RowKit
/-- a string's bytes as numbers -/
def numsB (s : ByteArray) : List Int := s.data.toList.map fun b => (b.toNat : Int)
theorem numsB_length (s : ByteArray) : (numsB s).length = s.size := by
  unfold numsB
  rw [List.length_map]
  rfl
namespace BK
def R (_d : Kd Int) (_e : Nat) (w : World) (base : Nat) (ok : Nat → Prop) (v : Value) (xs : List Int) : Prop :=
  ∃ g cap, v = .slice (some ⟨g, 0, none⟩) xs.length cap ∧ xs.length ≤ cap ∧ base ≤ g ∧ g < w.heap.size ∧ ok g ∧ (Kd.int .u8).C w (some ⟨g, 0, none⟩) xs.length xs
section
variable {d : Kd Int} {e : Nat} {w w1 W : World} {base : Nat} {ok ok' : Nat → Prop} {v v1 u : Value} {xs : List Int}
theorem C_move {g n : Nat} (h : (Kd.int .u8).C w (some ⟨g, 0, none⟩) n xs) (hb : w1.heap[g]? = w.heap[g]?) : (Kd.int .u8).C w1 (some ⟨g, 0, none⟩) n xs := by
  refine ⟨h.1, h.2.1, fun hn => ?_⟩
  obtain ⟨ad, ha, hc⟩ := h.2.2 hn
  obtain rfl := Option.some.inj ha
  refine ⟨_, rfl, fun j p hp => ?_⟩
  obtain ⟨c, hl, hk, hcell⟩ := hc j p hp
  refine ⟨c, hl, hk, fun i u hu => ?_⟩
  rw [← hcell i u hu]
  refine World.cell?_of_block ?_
  have e2 : ∀ m, ((⟨g, 0, none⟩ : Addr).add m).block = g := fun m => by unfold Addr.add; split <;> rfl
  rw [e2]
  exact hb
theorem R_below (h : R d e w base ok v xs) (hb : Below w.heap.size w w1) : R d e w1 base ok v xs := by
  obtain ⟨g, cap, hv, hl, hg, hlt, ho, hc⟩ := h
  exact ⟨g, cap, hv, hl, hg, Nat.lt_of_lt_of_le hlt hb.size, ho, Kd.C_below hc hb⟩
theorem R_lower {base' : Nat} (h : R d e w base ok v xs) (hb : base' ≤ base) : R d e w base' ok v xs := by
  obtain ⟨g, cap, hv, hl, hg, hlt, ho, hc⟩ := h
  exact ⟨g, cap, hv, hl, Nat.le_trans hb hg, hlt, ho, hc⟩
theorem R_mono (h : R d e w base ok v xs) (hok : ∀ k, ok k → ok' k) : R d e w base ok' v xs := by
  obtain ⟨g, cap, hv, hl, hg, hlt, ho, hc⟩ := h
  exact ⟨g, cap, hv, hl, hg, hlt, hok g ho, hc⟩
theorem R_alloc (h : R d e w base ok v xs) (o : Obj) : R d e (w.alloc o) base ok v xs := R_below h (below_alloc (Below.refl _ _) o)
theorem R_drew (h : R d e w base ok v xs) : R d e w.drew base ok v xs := R_below h (below_drew (Below.refl _ _))
theorem R_drewN (h : R d e w base ok v xs) (m : Nat) : R d e (w.drewN m) base ok v xs := R_below h (pw_below_drewN (Below.refl _ _) m)
theorem R_lt (h : R d e w base ok v xs) : ∀ k, v.ownBlock = some k → k < w.heap.size := by
  obtain ⟨g, cap, rfl, hl, hg, hlt, ho, hc⟩ := h
  intro k hk
  have : g = k := by simpa [Value.ownBlock] using hk
  omega
theorem R_base (h : R d e w base ok v xs) : ∀ k, v.ownBlock = some k → base ≤ k := by
  obtain ⟨g, cap, rfl, hl, hg, hlt, ho, hc⟩ := h
  intro k hk
  have : g = k := by simpa [Value.ownBlock] using hk
  omega
theorem R_new' (h : R d e w1 W.heap.size ok v xs) (hlt : ∀ k, u.ownBlock = some k → k < W.heap.size) : R d e w1 W.heap.size (fun k => ok k ∧ some k ≠ u.ownBlock) v xs := by
  obtain ⟨g, cap, hv, hl, hg, hlt', ho, hc⟩ := h
  exact ⟨g, cap, hv, hl, hg, hlt', ⟨ho, fun he => by have := hlt g he.symm; omega⟩, hc⟩
theorem R_after (h : R d e W base (fun k => ok k ∧ some k ≠ v.ownBlock) u xs) (hg : W.grownBy w1 v.ownBlock) (hat : v1.ownBlock = v.ownBlock ∨ ∃ b, v1.ownBlock = some b ∧ W.heap.size ≤ b) : R d e w1 base (fun k => ok k ∧ some k ≠ v1.ownBlock) u xs := by
  obtain ⟨g, cap, hv, hl, hb, hlt, ⟨ho, hne⟩, hc⟩ := h
  refine ⟨g, cap, hv, hl, hb, Nat.lt_of_lt_of_le hlt hg.size, ⟨ho, ?_⟩, C_move hc (hg.block g hlt hne)⟩
  rcases hat with hat | ⟨b, hb', hle⟩
  · rw [hat]; exact hne
  · rw [hb']
    intro he
    injection he with he
    omega
theorem R_reads' {A : Option Addr} {n c : Nat} (h : R d e w base ok (.slice A n c) xs) : n = xs.length ∧ n ≤ c ∧ (Kd.int .u8).C w A xs.length xs := by
  obtain ⟨g, cap, hv, hl, hg, hlt, ho, hc⟩ := h
  injection hv with h1 h2 h3
  subst h1 h2 h3
  exact ⟨rfl, hl, hc⟩
theorem R_slice (h : R d e w base ok v xs) : ∃ A c, v = .slice A xs.length c := by
  obtain ⟨g, cap, hv, _⟩ := h
  exact ⟨_, _, hv⟩
end
section
variable {P : Program} {ops : Array Oper} {rest : List Oper} {o : Oper} {a : Act} {Q : Exit → Act → World → Prop}
theorem bytes_C (W : World) (e : Nat) (s : ByteArray) (hs : s.size ≤ 9223372036854775807) : (Kd.int .u8).C (Lib.bytesWorld W e s) (some ⟨W.heap.size, 0, none⟩) (numsB s).length (numsB s) := by
  refine ⟨rfl, by rw [numsB_length]; exact hs, fun _ => ⟨_, rfl, fun j p hj => ⟨[.int .u8 p], rfl, rfl, fun i u hu => ?_⟩⟩⟩
  have hjl : j < s.size := by
    rw [← numsB_length]
    exact (List.getElem?_eq_some_iff.mp hj).1
  match i, hu with
  | 0, hu =>
    obtain rfl : Value.int .u8 p = u := by simpa using hu
    have h1 := Lib.bytesWorld_cell W e s j hjl
    have h2 : ((s.data.toList.getD j 0).toNat : Int) = p := by
      unfold numsB at hj
      rw [List.getElem?_map] at hj
      obtain ⟨b, hb, rfl⟩ := Option.map_eq_some_iff.mp hj
      rw [List.getD_eq_getElem?_getD, hb]
      rfl
    rw [h2] at h1
    have e2 : (⟨W.heap.size, 0, none⟩ : Addr).add (j * (Kd.int .u8).sz + 0) = ⟨W.heap.size, j, none⟩ := by
      have e3 : j * (Kd.int .u8).sz + 0 = j := Nat.mul_one j
      rw [e3]
      simp [Addr.add]
      omega
    rw [e2]
    exact h1
  | i + 1, hu => simp at hu
theorem R_bytes {w0 W : World} (e : Nat) {base : Nat} {N : Tmp} (_hd : o.dst = some N) (hgd : o.guard = none) (src dst : TypeId) (x : Operand) (ho : o.op = .convert src dst x) (s : ByteArray) (hx : a.eval x = .string s)
    (hs : P.underlying src = some .string) (hdt : P.underlying dst = some (.slice e)) (he : P.underlying e = some (.int .u8)) {ok : Nat → Prop} (hok : ok W.heap.size) (hsz : s.size ≤ 9223372036854775807) (HB : Below base w0 W) (hbase : base ≤ W.heap.size)
    (h : ∀ v1 w1, R (Kd.int .u8) e w1 base ok v1 (numsB s) → Below base w0 w1 → W.grownBy w1 none → (∃ b, v1.ownBlock = some b ∧ W.heap.size ≤ b) → wpList P ops Q rest (a.put o.dst v1) w1) : wpList P ops Q (o :: rest) a W := by
  have hr := Lib.run_convert_string_bytes (P := P) W src dst e s hs hdt he
  have hB : Below base W (Lib.bytesWorld W e s) := Go.Joins.below_bytesWorld base W e s hbase
  have hB' : Below W.heap.size W (Lib.bytesWorld W e s) := Go.Joins.below_bytesWorld _ W e s (Nat.le_refl _)
  refine Kd.event_run hgd (v := .slice (some ⟨W.heap.size, 0, none⟩) s.size (grownCap W s.size 0 e)) (w1 := Lib.bytesWorld W e s) ?_ (h _ _ ⟨W.heap.size, grownCap W s.size 0 e, ?_, ?_, hbase, ?_, hok, bytes_C W e s hsz⟩ (HB.trans hB) ?_ ⟨W.heap.size, rfl, Nat.le_refl _⟩)
  · simp [execOp, ho, hx, hr]
  · rw [numsB_length]
  · rw [numsB_length]; exact grownCap_ge _ _ _ _
  · rw [Lib.bytesWorld_size]; omega
  · exact ⟨hB'.os, hB'.tape, hB'.output, hB'.size, fun k hk _ => hB'.block k hk⟩
end
end BK
end Go.Proofs.YtmajmplhojlhbaaDoorW.PrintWords
