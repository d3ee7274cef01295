/- Signals, the program's: the walks of Pending, Mask, Open, Used, SetMask. Condition: the signals lie, or are not there. -/
import Derived.Test.YtnmlcijkggfhmaaSg2
import Derived.Laws.BitsAllLaws
namespace Go.Proofs.Ytnmlcijkggfhmaa
open Go.RowKit
set_option linter.unusedVariables false
set_option linter.all false
set_option maxRecDepth 20000

/-- Signals that are not there. -/
def NoSig (v : Value) (w : World) : Prop := ∀ (t : Int) (W : World), Only [] w W → Calls Try.prog 25 #[v, .int .i64 t] W fun e w' => e = .returned (.int .i64 1) ∧ w' = W
theorem NoSig.nil (w : World) : NoSig (.pointer none) w := fun t W _ => ask_nil t W
theorem NoSig.zero {g : Nat} {w : World} (h : w.cell? ⟨g, 35, none⟩ = some (.map none)) : NoSig (ptr g) w := fun t W o => ask_zero g t W (o.keep0 h)
theorem NoSig.only0 {v : Value} {w w' : World} (h : NoSig v w) (o : Only [] w w') : NoSig v w' := fun t W o' => h t W (o.trans0 o')
theorem NoSig.self {v : Value} {w : World} (h : NoSig v w) (t : Int) : Calls Try.prog 25 #[v, .int .i64 t] w fun e w' => e = .returned (.int .i64 1) ∧ w' = w := h t w (Only.refl _ _)
def inT (T : Nat) (t : Int) : Prop := 0 ≤ t ∧ t < T
instance (T : Nat) (t : Int) : Decidable (inT T t) := by unfold inT; infer_instance
theorem askC_in {T : Nat} {t : Int} (h : inT T t) : askC T t = 0 := if_pos h
theorem askC_out {T : Nat} {t : Int} (h : ¬ inT T t) : askC T t = 2 := if_neg h
/-- What is pending for a thread, whatever number it has. -/
def pendI (L : List Snt) (T : Nat) (t : Int) : Nat := if inT T t then pendOf L t.toNat else 0
def maskI (M : Nat → Nat) (T : Nat) (t : Int) : Nat := if inT T t then M t.toNat else 0

theorem pending_no (v : Value) (t : Int) (w : World) (h : NoSig v w) : Calls Try.prog 13 #[v, .int .i64 t] w fun e w' => e = .returned (.int .u32 0) ∧ w' = w := by
  have AS := hide (h.self t)
  clear h
  go_enter Try.func13, Try.ntmps13
  go_wp2_with (go_at_call 25; refine AS.out.mono ?_; rintro e w' ⟨rfl, hw⟩; obtain rfl := hw.symm; clear hw)
  go_ret
  exact ⟨rfl, rfl⟩
theorem mask_no (v : Value) (t : Int) (w : World) (h : NoSig v w) : Calls Try.prog 24 #[v, .int .i64 t] w fun e w' => e = .returned (.int .u32 0) ∧ w' = w := by
  have AS := hide (h.self t)
  clear h
  go_enter Try.func24, Try.ntmps24
  go_wp2_with (go_at_call 25; refine AS.out.mono ?_; rintro e w' ⟨rfl, hw⟩; obtain rfl := hw.symm; clear hw)
  go_ret
  exact ⟨rfl, rfl⟩
section
variable {w : World} {g mb T S : Nat} {L : List Snt} {M : Nat → Nat} {Bs : List Nat}
theorem pending_any (h : SG w g mb T S L M Bs) (t : Int) : Calls Try.prog 13 #[ptr g, .int .i64 t] w fun e w' => e = .returned (.int .u32 (pendI L T t : Nat)) ∧ w' = w := by
  have AS := ask_sg h t
  unfold pendI
  by_cases c : inT T t
  · rw [askC_in c] at AS
    have AS := hide AS
    rw [if_pos c]
    obtain ⟨cs, hb, hC⟩ := h.cells
    have ht1 := h.t1
    obtain ⟨k, rfl⟩ : ∃ k : Nat, t = k := ⟨t.toNat, by have := c.1; omega⟩
    have c2 := c.2
    rw [Int.toNat_natCast]
    have k1 := (hb.cell (19 + k)).trans (hC.p k (by omega))
    obtain ⟨p, hp⟩ : ∃ p, pendOf L k = p := ⟨_, rfl⟩
    rw [hp] at k1 ⊢
    have i0 : (0 : Int) ≤ (k : Int) := by omega
    have i1 : (k : Int) < 16 := by omega
    clear hb hC h c hp
    unfold ptr at AS ⊢
    go_enter Try.func13, Try.ntmps13
    go_wp2_with (go_at_call 25; refine AS.out.mono ?_; rintro e w' ⟨rfl, hw⟩; obtain rfl := hw.symm; clear hw)
    go_ret
    exact ⟨rfl, rfl⟩
  · rw [askC_out c] at AS
    have AS := hide AS
    rw [if_neg c]
    clear h c
    unfold ptr at AS ⊢
    go_enter Try.func13, Try.ntmps13
    go_wp2_with (go_at_call 25; refine AS.out.mono ?_; rintro e w' ⟨rfl, hw⟩; obtain rfl := hw.symm; clear hw)
    go_ret
    exact ⟨rfl, rfl⟩
theorem mask_any (h : SG w g mb T S L M Bs) (t : Int) : Calls Try.prog 24 #[ptr g, .int .i64 t] w fun e w' => e = .returned (.int .u32 (maskI M T t : Nat)) ∧ w' = w := by
  have AS := ask_sg h t
  unfold maskI
  by_cases c : inT T t
  · rw [askC_in c] at AS
    have AS := hide AS
    rw [if_pos c]
    obtain ⟨cs, hb, hC⟩ := h.cells
    have ht1 := h.t1
    obtain ⟨k, rfl⟩ : ∃ k : Nat, t = k := ⟨t.toNat, by have := c.1; omega⟩
    have c2 := c.2
    rw [Int.toNat_natCast]
    have k1 := (hb.cell (3 + k)).trans (hC.m k (by omega))
    obtain ⟨p, hp⟩ : ∃ p, M k = p := ⟨_, rfl⟩
    rw [hp] at k1 ⊢
    have i0 : (0 : Int) ≤ (k : Int) := by omega
    have i1 : (k : Int) < 16 := by omega
    clear hb hC h c hp
    unfold ptr at AS ⊢
    go_enter Try.func24, Try.ntmps24
    go_wp2_with (go_at_call 25; refine AS.out.mono ?_; rintro e w' ⟨rfl, hw⟩; obtain rfl := hw.symm; clear hw)
    go_ret
    exact ⟨rfl, rfl⟩
  · rw [askC_out c] at AS
    have AS := hide AS
    rw [if_neg c]
    clear h c
    unfold ptr at AS ⊢
    go_enter Try.func24, Try.ntmps24
    go_wp2_with (go_at_call 25; refine AS.out.mono ?_; rintro e w' ⟨rfl, hw⟩; obtain rfl := hw.symm; clear hw)
    go_ret
    exact ⟨rfl, rfl⟩
theorem used_any (h : SG w g mb T S L M Bs) : Calls Try.prog 12 #[ptr g] w fun e w' => e = .returned (.int .i64 (usedOf L : Nat)) ∧ w' = w := by
  have AS := ask_sg h 0
  rw [askC_in ⟨by omega, by have := h.t0; omega⟩] at AS
  have AS := hide AS
  obtain ⟨cs, hb, hC⟩ := h.cells
  have k1 := (hb.cell 2).trans hC.u
  obtain ⟨p, hp⟩ : ∃ p, usedOf L = p := ⟨_, rfl⟩
  rw [hp] at k1 ⊢
  clear hb hC h hp
  unfold ptr at AS ⊢
  go_enter Try.func12, Try.ntmps12
  go_wp2_with (go_at_call 25; refine AS.out.mono ?_; rintro e w' ⟨rfl, hw⟩; obtain rfl := hw.symm; clear hw)
  go_ret
  exact ⟨rfl, rfl⟩
end
theorem used_no (v : Value) (w : World) (h : NoSig v w) : Calls Try.prog 12 #[v] w fun e w' => e = .returned (.int .i64 0) ∧ w' = w := by
  have AS := hide (h.self 0)
  clear h
  go_enter Try.func12, Try.ntmps12
  go_wp2_with (go_at_call 25; refine AS.out.mono ?_; rintro e w' ⟨rfl, hw⟩; obtain rfl := hw.symm; clear hw)
  go_ret
  exact ⟨rfl, rfl⟩
theorem open_no (v : Value) (t : Int) (w : World) (h : NoSig v w) : Calls Try.prog 22 #[v, .int .i64 t] w fun e w' => e = .returned (.int .u32 (bits .andNot .u32 0 0)) ∧ w' = w := by
  have P := hide (pending_no v t w h)
  have K := hide (mask_no v t w h)
  clear h
  go_enter Try.func22, Try.ntmps22
  go_wp2_with (first
    | (go_at_call 13; refine P.out.mono ?_; rintro e w' ⟨rfl, hw⟩; obtain rfl := hw.symm; clear hw)
    | (go_at_call 24; refine K.out.mono ?_; rintro e w' ⟨rfl, hw⟩; obtain rfl := hw.symm; clear hw))
  go_ret
  exact ⟨rfl, rfl⟩
section
variable {w : World} {g mb T S : Nat} {L : List Snt} {M : Nat → Nat} {Bs : List Nat}
theorem open_any (h : SG w g mb T S L M Bs) (t : Int) : Calls Try.prog 22 #[ptr g, .int .i64 t] w fun e w' => e = .returned (.int .u32 (bits .andNot .u32 (pendI L T t : Nat) (maskI M T t : Nat))) ∧ w' = w := by
  have P := hide (pending_any h t)
  have K := hide (mask_any h t)
  obtain ⟨p, hp⟩ : ∃ p, pendI L T t = p := ⟨_, rfl⟩
  obtain ⟨m, hm⟩ : ∃ m, maskI M T t = m := ⟨_, rfl⟩
  rw [hp] at P ⊢
  rw [hm] at K ⊢
  clear h hp hm
  unfold ptr at P K ⊢
  go_enter Try.func22, Try.ntmps22
  go_wp2_with (first
    | (go_at_call 13; refine P.out.mono ?_; rintro e w' ⟨rfl, hw⟩; obtain rfl := hw.symm; clear hw)
    | (go_at_call 24; refine K.out.mono ?_; rintro e w' ⟨rfl, hw⟩; obtain rfl := hw.symm; clear hw))
  go_ret
  exact ⟨rfl, rfl⟩
/-- The masks when one is anew. -/
def setM (M : Nat → Nat) (t v : Nat) : Nat → Nat := fun i => if i = t then v else M i
theorem SC.setMask {cs : Array Value} (h : SC cs T S L M mb) {k v : Nat} (hk : k < 16) : SC (cs.setIfInBounds (3 + k) (.int .u32 (v : Nat))) T S L (setM M k v) mb := by
  have hz := h.size
  refine ⟨by simp [hz], (set_ne (by omega)).trans h.t, (set_ne (by omega)).trans h.s, (set_ne (by omega)).trans h.u, fun i hi => ?_, fun i hi => (set_ne (by omega)).trans (h.p i hi), (set_ne (by omega)).trans h.q⟩
  unfold setM
  by_cases e : i = k
  · subst e
    rw [if_pos rfl]
    exact set_eq (by omega)
  · rw [if_neg e]
    exact (set_ne (by omega)).trans (h.m i hi)
theorem SG.setMask (h : SG w g mb T S L M Bs) {k v : Nat} (hk : k < 16) (hv : v < 4294967296) : SG (w.setCell ⟨g, 3 + k, none⟩ (.int .u32 (v : Nat))) g mb T S L (setM M k v) Bs := by
  have hne := h.ne
  have hnb := h.nb
  have o : Only [g] w (w.setCell ⟨g, 3 + k, none⟩ (.int .u32 (v : Nat))) := (Only.refl [g] w).setCell (p := ⟨g, 3 + k, none⟩) (.inl (by simp)) _
  obtain ⟨cs, hb, hC⟩ := h.cells
  obtain ⟨f, n, hM, hQ⟩ := h.map
  exact ⟨⟨_, hb.set_ _ _, hC.setMask hk⟩, ⟨f, n, hM.only o (by simpa using hne), hQ.only o (fun b hb => by simpa using (hnb b hb).1)⟩, h.inv, h.t0, h.t1, h.s0, h.s1, fun i hi => by unfold setM; split; (exact hv); (exact h.mlt i hi), fun b hb' => by
    obtain ⟨cs, hc⟩ := h.bs b hb'
    exact ⟨cs, hc.only o (by simpa using (hnb b hb').1)⟩⟩
/-- A mask as it is kept: signal 0 cannot be masked. -/
def evenM (v : Nat) : Nat := v - v % 2
theorem even_and (v : Nat) : v &&& 4294967294 = if v < 4294967296 then evenM v else v &&& 4294967294 := by
  split
  · rename_i h
    have e : evenM v = (v >>> 1) <<< 1 := by
      unfold evenM
      rw [Nat.shiftRight_eq_div_pow, Nat.shiftLeft_eq]
      omega
    rw [e]
    apply Nat.eq_of_testBit_eq
    intro i
    have e2 : (4294967294 : Nat) = (2 ^ 31 - 1) <<< 1 := by decide
    rw [Nat.testBit_and, e2, Nat.testBit_shiftLeft, Nat.testBit_shiftLeft, Nat.testBit_two_pow_sub_one, Nat.testBit_shiftRight]
    by_cases h1 : 1 ≤ i
    · have e3 : 1 + (i - 1) = i := by omega
      rw [e3]
      by_cases h2 : i - 1 < 31
      · simp [h1, h2]
      · have : v.testBit i = false := Nat.testBit_lt_two_pow (Nat.lt_of_lt_of_le h (show 2 ^ 32 ≤ 2 ^ i from Nat.pow_le_pow_right (by decide) (show 32 ≤ i by omega)))
        simp [this]
    · simp [h1]
  · rfl
theorem andNot_one (v : Nat) (h : v < 4294967296) : bits .andNot .u32 (v : Int) 1 = (evenM v : Nat) := by
  have := u32_andNot_nat v 1 h (by omega)
  rw [show (((1 : Nat) : Int)) = 1 from rfl] at this
  rw [this, show (4294967295 - 1 : Nat) = 4294967294 from rfl, even_and, if_pos h]
theorem evenM_lt {v : Nat} (h : v < 4294967296) : evenM v < 4294967296 := by unfold evenM; omega
def setMI (M : Nat → Nat) (T : Nat) (t : Int) (v : Nat) : Nat → Nat := if inT T t then setM M t.toNat (evenM v) else M
theorem setmask_any (h : SG w g mb T S L M Bs) (t : Int) (v : Nat) (hv : v < 4294967296) : Calls Try.prog 19 #[ptr g, .int .i64 t, .int .u32 v] w fun e w' => e = .returned (.tuple #[.int .u32 (maskI M T t : Nat), .int .i64 (askC T t)]) ∧ SG w' g mb T S L (setMI M T t v) Bs ∧ Only [g] w w' := by
  have AS := ask_sg h t
  unfold maskI setMI
  by_cases c : inT T t
  · rw [askC_in c] at AS ⊢
    have AS := hide AS
    rw [if_pos c, if_pos c]
    obtain ⟨cs, hb, hC⟩ := h.cells
    have ht1 := h.t1
    obtain ⟨k, rfl⟩ : ∃ k : Nat, t = k := ⟨t.toNat, by have := c.1; omega⟩
    have c2 := c.2
    rw [Int.toNat_natCast]
    have k1 := (hb.cell (3 + k)).trans (hC.m k (by omega))
    have f1 := hb.frozen (3 + k)
    have HG := hide (h.setMask (k := k) (by omega) (evenM_lt hv))
    obtain ⟨p, hp⟩ : ∃ p, M k = p := ⟨_, rfl⟩
    rw [hp] at k1 ⊢
    have i0 : (0 : Int) ≤ (k : Int) := by omega
    have i1 : (k : Int) < 16 := by omega
    have z1 := andNot_one v hv
    obtain ⟨v2, hv2⟩ : ∃ v2, evenM v = v2 := ⟨_, rfl⟩
    rw [hv2] at z1 HG ⊢
    clear hb hC h c hp hv2
    unfold ptr at AS ⊢
    go_enter Try.func19, Try.ntmps19
    go_wp2_with (go_at_call 25; refine AS.out.mono ?_; rintro e w' ⟨rfl, hw⟩; obtain rfl := hw.symm; clear hw)
    exact bodyPost_ret (v := .tuple #[.int .u32 p, .int .i64 0]) (by simp [results, Try.results19, go_sem]) rfl ⟨rfl, HG.out, (Only.refl [g] w).setCell (p := ⟨g, 3 + k, none⟩) (.inl (by simp)) _⟩
  · rw [askC_out c] at AS ⊢
    have AS := hide AS
    rw [if_neg c, if_neg c]
    have H := hide h
    clear h c
    unfold ptr at AS ⊢
    go_enter Try.func19, Try.ntmps19
    go_wp2_with (go_at_call 25; refine AS.out.mono ?_; rintro e w' ⟨rfl, hw⟩; obtain rfl := hw.symm; clear hw)
    exact bodyPost_ret (v := .tuple #[.int .u32 0, .int .i64 2]) (by simp [results, Try.results19, go_sem]) rfl ⟨rfl, H.out, Only.refl _ _⟩
end
theorem setmask_no (v : Value) (t : Int) (m : Nat) (w : World) (h : NoSig v w) : Calls Try.prog 19 #[v, .int .i64 t, .int .u32 m] w fun e w' => e = .returned (.tuple #[.int .u32 0, .int .i64 1]) ∧ w' = w := by
  have AS := hide (h.self t)
  clear h
  go_enter Try.func19, Try.ntmps19
  go_wp2_with (go_at_call 25; refine AS.out.mono ?_; rintro e w' ⟨rfl, hw⟩; obtain rfl := hw.symm; clear hw)
  exact bodyPost_ret (v := .tuple #[.int .u32 0, .int .i64 1]) (by simp [results, Try.results19, go_sem]) rfl ⟨rfl, rfl⟩
end Go.Proofs.Ytnmlcijkggfhmaa
