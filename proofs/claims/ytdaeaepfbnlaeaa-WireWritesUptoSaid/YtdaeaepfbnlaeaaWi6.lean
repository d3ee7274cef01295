/- Walks over wire: the reader's Flag; readers that are not there; the law's known. No condition. -/
import Derived.Test.YtdaeaepfbnlaeaaWi5
namespace Go.Proofs.Ytdaeaepfbnlaeaa
open Go.RowKit
set_option linter.unusedVariables false
set_option linter.all false
set_option maxRecDepth 20000

def resF : List UInt8 → Bool × Int × Nat
  | [] => (false, 4, 0)
  | c :: _ => if 1 < c.toNat then (false, 4, 0) else (decide (c.toNat = 1), 0, 1)
def FlagRead (w : World) (g gb cap : Nat) (bs : List UInt8) (at_ : Nat) (e : Ending) (w' : World) : Prop :=
  e = .returned (.tuple #[.bool (resF (bs.drop at_)).1, .int .i64 (resF (bs.drop at_)).2.1]) ∧ Only [g] w w' ∧ Rd w' g gb cap bs (at_ + (resF (bs.drop at_)).2.2)
set_option maxHeartbeats 1000000 in
theorem rdflag_any {g gb cap at_ : Nat} {bs : List UInt8} {w : World} (h : Rd w g gb cap bs at_) : Calls Try.prog 23 #[.pointer (some ⟨g, 0, none⟩)] w (FlagRead w g gb cap bs at_) := by
  have k0 := h.k0
  have k1 := h.k1
  have f1 := h.hdr.frozen 1
  have hle := h.le
  have hmx := h.max
  have H := hide h
  clear h
  unfold FlagRead
  by_cases hlt : at_ < bs.length
  · obtain ⟨c, hc⟩ : ∃ c, bs[at_]? = some c := ⟨_, List.getElem?_eq_getElem hlt⟩
    have hcell := H.out.byte _ _ hc
    have hdrop : bs.drop at_ = c :: bs.drop (at_ + 1) := by
      obtain ⟨hl, rfl⟩ := List.getElem?_eq_some_iff.1 hc
      exact List.drop_eq_getElem_cons hl
    rw [hdrop]
    simp only [resF]
    have hc256 := c.toNat_lt
    have i0 : (0 : Int) ≤ (at_ : Int) := by omega
    have i1 : (at_ : Int) < (bs.length : Int) := by omega
    have d0 : (((bs.length - at_ : Nat) : Int) == 0) = false := by simp; omega
    clear hdrop hc
    by_cases hb : 1 < c.toNat
    · simp only [if_pos hb]
      have d1 : (1 : Int) < (c.toNat : Int) := by omega
      go_enter Try.func23, Try.ntmps23
      go_wp2_with fail
      refine (there_yes H.out).mono ?_
      rintro e w' ⟨rfl, rfl⟩
      go_wp2_with fail
      go_big_quiet (first | (go_at_call 26; exact quiet_some (left_any (H.out.only0 ((Only.refl [] _).drewN _)))))
      go_wp2
      go_ret2
      exact ⟨rfl, (Only.refl _ _).drewN _, H.out.only0 ((Only.refl _ _).drewN _)⟩
    · simp only [if_neg hb]
      have d1 : decide ((1 : Int) < (c.toNat : Int)) = false := by simp; omega
      go_enter Try.func23, Try.ntmps23
      go_wp2_with fail
      refine (there_yes H.out).mono ?_
      rintro e w' ⟨rfl, rfl⟩
      go_wp2_with fail
      go_big_quiet (first | (go_at_call 26; exact quiet_some (left_any (H.out.only0 ((Only.refl [] _).drewN _)))))
      go_wp2_with fail
      have hmv := (H.out.only0 ((Only.refl [] _).drewN nq)).move (at_ + 1) hlt
      have o2 : Only [g] w ((w.drewN nq).setCell ⟨g, 1, none⟩ (.int .i64 ((at_ + 1 : Nat) : Int))) := ((Only.refl _ w).drewN nq).setCell (.inl (by simp)) _
      have hcell2 := o2.keep hcell (by simpa using H.out.ne)
      rw [show ((at_ + 1 : Nat) : Int) = (at_ : Int) + 1 from by omega] at hmv o2 hcell2
      generalize (w.drewN nq).setCell ⟨g, 1, none⟩ (.int .i64 ((at_ : Int) + 1)) = w2 at hmv o2 hcell2 ⊢
      have t0 := hmv.k0
      have t1 := hmv.k1
      have HM := hide hmv
      clear k0 k1 f1 hmv hcell
      go_quiet (fail)
      go_wp2
      go_ret2
      refine ⟨?_, o2.drewN _, HM.out.only0 ((Only.refl _ _).drewN _)⟩
      have e1 : ((c.toNat : Int) == 1) = decide (c.toNat = 1) := by
        by_cases h1 : c.toNat = 1
        · simp [h1]
        · simp [h1]; omega
      rw [← e1]
      rfl
  · rw [List.drop_eq_nil_of_le (by omega)]
    simp only [resF]
    have d0 : (((bs.length - at_ : Nat) : Int) == 0) = true := by simp; omega
    go_enter Try.func23, Try.ntmps23
    go_wp2_with fail
    refine (there_yes H.out).mono ?_
    rintro e w' ⟨rfl, rfl⟩
    go_wp2_with fail
    go_big_quiet (first | (go_at_call 26; exact quiet_some (left_any (H.out.only0 ((Only.refl [] _).drewN _)))))
    go_wp2
    go_ret2
    exact ⟨rfl, (Only.refl _ _).drewN _, H.out.only0 ((Only.refl _ _).drewN _)⟩

/-! ## Readers that are not there -/
theorem number_gone (p : Option Addr) (w : World) (h : Gone w p) : Calls Try.prog 20 #[.pointer p] w fun e w' => e = .returned (.tuple #[.int .u64 0, .int .i64 1]) ∧ w = w' := by
  have H := hide h
  clear h
  go_enter Try.func20, Try.ntmps20
  go_wp2_with fail
  go_step3
  go_wp2_with fail
  refine (there_no _ _ H.out).mono ?_
  rintro e w' ⟨rfl, rfl⟩
  go_wp2_with fail
  (first | go_ret2 | (rw [Exit.noGoto_ret]; go_ret2))
  exact ⟨rfl, rfl⟩
theorem signed_gone (p : Option Addr) (w : World) (h : Gone w p) : Calls Try.prog 21 #[.pointer p] w fun e w' => e = .returned (.tuple #[.int .i64 0, .int .i64 1]) ∧ w = w' := by
  have H := hide h
  clear h
  have e0 : bits .xor .i64 0 (wrap64 (-wrap64 (bits .and .u64 0 1))) = 0 := by decide +kernel
  go_enter Try.func21, Try.ntmps21
  go_wp2_with (go_at_call 20; refine (number_gone _ _ H.out).mono ?_; rintro e w' ⟨rfl, rfl⟩)
  go_ret2
  exact ⟨rfl, rfl⟩
theorem flag_gone (p : Option Addr) (w : World) (h : Gone w p) : Calls Try.prog 23 #[.pointer p] w fun e w' => e = .returned (.tuple #[.bool false, .int .i64 1]) ∧ w = w' := by
  have H := hide h
  clear h
  go_enter Try.func23, Try.ntmps23
  go_wp2_with (go_at_call 38; refine (there_no _ _ H.out).mono ?_; rintro e w' ⟨rfl, rfl⟩)
  go_ret2
  exact ⟨rfl, rfl⟩
theorem bytes_gone (p : Option Addr) (m : Int) (w : World) (h : Gone w p) : Calls Try.prog 22 #[.pointer p, .int .i64 m] w fun e w' => e = .returned (.tuple #[.slice none 0 0, .int .i64 1]) ∧ w = w' := by
  have H := hide h
  clear h
  go_enter Try.func22, Try.ntmps22
  go_wp2_with (go_at_call 38; refine (there_no _ _ H.out).mono ?_; rintro e w' ⟨rfl, rfl⟩)
  go_ret2
  exact ⟨rfl, rfl⟩
theorem left_gone (p : Option Addr) (w : World) (h : Gone w p) : Calls Try.prog 26 #[.pointer p] w fun e w' => e = .returned (.int .i64 0) ∧ w = w' := by
  have H := hide h
  clear h
  go_enter Try.func26, Try.ntmps26
  go_wp2_with (go_at_call 38; refine (there_no _ _ H.out).mono ?_; rintro e w' ⟨rfl, rfl⟩)
  go_ret
  exact ⟨rfl, rfl⟩
theorem end_gone (p : Option Addr) (w : World) (h : Gone w p) : Calls Try.prog 25 #[.pointer p] w fun e w' => e = .returned (.int .i64 1) ∧ w = w' := by
  have H := hide h
  clear h
  go_enter Try.func25, Try.ntmps25
  go_wp2_with (go_at_call 38; refine (there_no _ _ H.out).mono ?_; rintro e w' ⟨rfl, rfl⟩)
  go_ret
  exact ⟨rfl, rfl⟩
theorem nothing_any (p : Option Addr) (w : World) (h : Gone w p) : Calls Try.prog 36 #[.pointer p] w fun e w' => e = .returned (.bool true) ∧ Only [] w w' := by
  have H := hide h
  clear h
  go_enter Try.func36, Try.ntmps36
  go_wp2_with (first
    | (go_at_call 20; refine (number_gone _ _ H.out).mono ?_; rintro e w' ⟨rfl, rfl⟩)
    | (go_at_call 21; refine (signed_gone _ _ H.out).mono ?_; rintro e w' ⟨rfl, rfl⟩)
    | (go_at_call 23; refine (flag_gone _ _ H.out).mono ?_; rintro e w' ⟨rfl, rfl⟩)
    | (go_at_call 22; refine (bytes_gone _ _ _ H.out).mono ?_; rintro e w' ⟨rfl, rfl⟩)
    | (go_at_call 25; refine (end_gone _ _ H.out).mono ?_; rintro e w' ⟨rfl, rfl⟩)
    | (go_at_call 26; refine (left_gone _ _ H.out).mono ?_; rintro e w' ⟨rfl, rfl⟩)
    | (go_at_call 24; refine (num_any _ _).mono ?_; rintro e w' ⟨rfl, rfl⟩))
  go_ret
  exact ⟨rfl, Only.refl _ _⟩
end Go.Proofs.Ytdaeaepfbnlaeaa
