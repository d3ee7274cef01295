/- Code: the walk of CodePrograms. Condition: Env; the program's cells. -/
import Derived.Test.YtmaljajdmgkakaaGreatDoorCt8
import Derived.Test.YtmaljajdmgkakaaGreatDoorCdF
import Derived.BigRegion
import Derived.Deep.RegionHeld3
namespace Go.Proofs.YtmaljajdmgkakaaGreatDoor
open Go.RowKit
set_option linter.unusedVariables false
set_option linter.all false
set_option maxRecDepth 20000
attribute [local go_sem ↓] app_hide

theorem i77_def : insV ⟨77, 0, 0, 0, 0⟩ = #[.int .i64 77, .int .i64 0, .int .i64 0, .int .i64 0, .int .i64 0] := rfl
/-- A copy of a program, with one instruction behind it. -/
theorem own_facts {w : World} {B : Nat} {g c : Nat} {n : Nat} {f : Nat → Ins} (h : Is w B (some ⟨g, 0, none⟩) c (pOf n f ++ [⟨77, 0, 0, 0, 0⟩])) : InsAt w (some ⟨g, 0, none⟩) n f ∧ w.cell? ⟨g, n * 5, none⟩ = some (.int .i64 77) ∧ n + 1 ≤ c := by
  have hl : (pOf n f ++ [(⟨77, 0, 0, 0, 0⟩ : Ins)]).length = n + 1 := by simp [pOf_len]
  have hf : ∀ k, k < n → fOf (pOf n f ++ [⟨77, 0, 0, 0, 0⟩]) k = f k := fun k hk => by
    have := fOf_pOf (f := f) hk
    unfold fOf at this ⊢
    rw [List.getD_eq_getElem?_getD] at this ⊢
    rw [List.getElem?_append_left (by rw [pOf_len]; exact hk)]
    exact this
  have h1 := is_at h
  rw [hl] at h1
  refine ⟨fun k hk => ?_, ?_, ?_⟩
  · have := h1 k (by omega)
    rw [hf k hk] at this
    exact this
  · obtain ⟨a, ha, h0, _⟩ := h1 n (by omega)
    obtain rfl := (Option.some.inj ha)
    have e : fOf (pOf n f ++ [(⟨77, 0, 0, 0, 0⟩ : Ins)]) n = ⟨77, 0, 0, 0, 0⟩ := by
      unfold fOf
      rw [List.getD_eq_getElem?_getD, List.getElem?_append_right (by rw [pOf_len]; exact Nat.le_refl _), pOf_len, Nat.sub_self]
      rfl
    rw [e, add_mk, Nat.zero_add] at h0
    exact h0
  · have := own_cap h
    rw [hl] at this
    exact this.1
set_option maxHeartbeats 32000000 in
theorem prog_bad0 (A : Option Addr) (n c : Nat) (f : Nat → Ins) (pc : Int) (w : World) (hA : InsAt w A n f) (hn : n ≤ maxLen) (hi : ∀ k, k < n → -9223372036854775808 ≤ (f k).imm ∧ (f k).imm ≤ 9223372036854775807) (he : Env w) (hw4 : 4 ≤ w.heap.size) (h600 : ¬ 600 < n) (hb : badP n f = true) (hp : 0 ≤ pc ∧ pc < n) : Calls Tryz.prog 4 #[.slice A n c, .int .i64 pc] w fun e w' => e = .returned (.bool true) ∧ Only [] w w' := by
  have KN := hide (fun W (o : Only [] w W) => known_any W (he.only o) (by have := o.size; omega))
  have e0 : decide ((600 : Int) < (n : Int)) = false := decide_eq_false (by omega)
  have e1 : decide (600 < n) = false := decide_eq_false h600
  obtain ⟨A1, c1, w1, hrun1, hI1, ho1⟩ := app_prog A n c f w hA (by omega)
  obtain ⟨g2, c2, w2, hrun2, hI2, ho2⟩ := app_ins w1 w.heap.size A1 c1 (pOf n f) ⟨77, 0, 0, 0, 0⟩ hI1 (by rw [pOf_len]; omega) ho1.size
  rw [i77_def, pOf_len] at hrun2
  obtain ⟨hO, h77, hcap⟩ := own_facts hI2
  have hw2 : Only [] w w2 := ho1.trans ho2 (fun x hx => .inr (own_ge hI1 x hx).1)
  have HW2 := hide hw2
  have CK := fun U (o : Only [] w2 U) => check_any (some ⟨g2, 0, none⟩) n c2 f U (hO.only0 o) hn
  have RC := fun U (o : Only [] w2 U) => rcheck_any A n c f U (hA.only0 (hw2.trans0 o)) hn
  have AT := hide (fun U (o : Only [] w2 U) => at_any (some ⟨g2, 0, none⟩) n c2 f pc U (hO.only0 o))
  have SM := hide (fun U (o : Only [] w2 U) => by have := rsame_any (some ⟨g2, 0, none⟩) n c2 f A n c f U (hO.only0 o) (hA.only0 (hw2.trans0 o)) hn; rw [sameB_self n f f (fun _ _ => rfl)] at this; exact this)
  have K7 := hide (fun U (o : Only [] w2 U) => o.keep0 h77)
  have HO := hide hO
  have HA := hide hA
  have j9 : n ≤ c2 := by omega
  have j8 : (n : Int) ≤ (c2 : Int) := by omega
  have j7 : (n : Int) < (n : Int) + 1 := by omega
  unfold maxLen at hn
  obtain ⟨x, hx⟩ := bad_chk hb
  rw [hx] at CK RC
  have CK := hide CK
  have RC := hide RC
  have LI := hide (fun U (o : Only [] w2 U) => list_bad (some ⟨g2, 0, none⟩) n c2 f U (HO.out.only0 o) (by unfold maxLen; omega) hb)
  have PU := hide (fun U (o : Only [] w2 U) => put_bad (some ⟨g2, 0, none⟩) n c2 f U (HO.out.only0 o) (by unfold maxLen; omega) hb)
  clear hx hb hI1 hI2 ho1 ho2 hw2 hO h77 hcap hA hi he hw4 h600
  obtain ⟨k, rfl⟩ : ∃ k : Nat, pc = k := ⟨pc.toNat, by omega⟩
  have hkn : k < n := by omega
  have hai : atI n f k = f k := by unfold atI; rw [if_pos (by omega)]; rfl
  obtain ⟨ad, rfl, e0, e1, e2, e3, e4⟩ := HA.out k hkn
  obtain ⟨⟨o, d, a', b', m⟩, hfk⟩ : ∃ x, f k = x := ⟨_, rfl⟩
  rw [hfk] at e0 e1 e2 e3 e4 hai
  simp only at e0 e1 e2 e3 e4
  rw [hai] at AT
  have k0 : (0 : Int) ≤ (k : Int) := by omega
  have k1 : (k : Int) < (n : Int) := by omega
  have k2 : decide ((0 : Int) ≤ (k : Int)) = true := decide_eq_true k0
  have k3 : decide ((k : Int) < (n : Int)) = true := decide_eq_true k1
  have k4 : decide (k < n) = true := decide_eq_true hkn
  clear hai hfk hp
  unfold insV at AT
  simp only at AT
  go_enter Tryz.func4, Tryz.ntmps4
  go_wp2_with (first
    | (go_at_call 7; (with_reducible refine (CK.out _ (Only.refl _ _)).mono ?_); rintro e w3 ⟨rfl, o'⟩; have Q3 := hide o'; clear o')
    | (go_at_call 6; (with_reducible refine (LI.out _ Q3.out).mono ?_); rintro e w4 ⟨rfl, o'⟩; have Q4 := hide (Q3.out.trans0 o'); clear o')
    | (go_at_call 14; (with_reducible refine (PU.out _ Q4.out).mono ?_); rintro e w5 ⟨rfl, o'⟩; have Q5 := hide (Q4.out.trans0 o'); clear o')
    | (go_at_call 15; (with_reducible refine (RC.out _ Q5.out).mono ?_); rintro e w6 ⟨rfl, o'⟩; have Q6 := hide (Q5.out.trans0 o'); have qz := (HW2.out.trans0 Q6.out).alloc (.cells #[.int .i64 0, .int .i64 0, .int .i64 0, .int .i64 0, .int .i64 0] 25); have c0 := qz.keep0 e0; have c1 := qz.keep0 e1; have c2 := qz.keep0 e2; have c3 := qz.keep0 e3; have c4 := qz.keep0 e4; clear qz; clear o'))
  obtain ⟨X, hX⟩ : ∃ X, w6.heap.size = X := ⟨_, rfl⟩
  have nb := Blk.new w6 25 #[.int .i64 o, .int .i64 d, .int .i64 a', .int .i64 b', .int .i64 m]
  have QV := hide (Q6.out.alloc (.cells #[.int .i64 o, .int .i64 d, .int .i64 a', .int .i64 b', .int .i64 m] 25))
  obtain ⟨V, hV⟩ : ∃ V, w6.alloc (.cells #[.int .i64 o, .int .i64 d, .int .i64 a', .int .i64 b', .int .i64 m] 25) = V := ⟨_, rfl⟩
  rw [hV, hX] at nb
  rw [hV] at QV
  rw [hV]
  simp only [hX]
  have KX := hide (fun U1 (oo : Only [] V U1) => show U1.cell? ⟨X, 0, none⟩ = some (.int .i64 o) ∧ U1.cell? ⟨X, 1, none⟩ = some (.int .i64 d) ∧ U1.cell? ⟨X, 2, none⟩ = some (.int .i64 a') ∧ U1.cell? ⟨X, 3, none⟩ = some (.int .i64 b') ∧ U1.cell? ⟨X, 4, none⟩ = some (.int .i64 m) from by have := nb.only oo (by simp); exact ⟨this.cell 0, this.cell 1, this.cell 2, this.cell 3, this.cell 4⟩)
  have AT := hide (fun U1 (oo : Only [] V U1) => AT.out U1 (QV.out.trans0 oo))
  have SM := hide (fun U1 (oo : Only [] V U1) => SM.out U1 (QV.out.trans0 oo))
  have K7 := hide (fun U1 (oo : Only [] V U1) => K7.out U1 (QV.out.trans0 oo))
  clear hV hX nb
  refine wp_region_held_drew (S := (fun U1 => Only [] V U1)) (by kernel_rfl) ((Only.refl _ V).drew) (fun hHeld => ?_)
  revert hHeld
  generalize V.drew = u0
  intro hHeld
  refine wpAnyH_take (i := 0) (oi := ⟨some 71, _, _, _, _, _⟩) (v := ?vba1) rfl (by kernel_rfl) (by kernel_rfl) (by kernel_rfl) (fun _ _ _ h => h) (Or.inl ⟨by rfl, ?hyba1⟩) (by assumption) ?restba1
  case hyba1 => (intro V hSw; (try dsimp only at hSw); go_simp; first | done | (with_reducible rfl))
  try simp only [Act.put, List.setIfInBounds_toArray, List.set_cons_zero, List.set_cons_succ]
  refine wpAnyH_take (i := 1) (oi := ⟨some 72, _, _, _, _, _⟩) (v := ?vba2) rfl (by kernel_rfl) (by kernel_rfl) (by kernel_rfl) (fun _ _ _ h => h) (Or.inl ⟨by rfl, ?hyba2⟩) (by assumption) ?restba2
  case hyba2 => (intro V hSw; (try dsimp only at hSw); go_simp; first | done | (with_reducible rfl))
  try simp only [Act.put, List.setIfInBounds_toArray, List.set_cons_zero, List.set_cons_succ]
  refine wpAnyH_take (i := 2) (oi := ⟨some 73, _, _, _, _, _⟩) (v := ?vba3) rfl (by kernel_rfl) (by kernel_rfl) (by kernel_rfl) (fun _ _ _ h => h) (Or.inl ⟨by rfl, ?hyba3⟩) (by assumption) ?restba3
  case hyba3 => (intro V hSw; (try dsimp only at hSw); go_simp; first | done | (with_reducible rfl))
  try simp only [Act.put, List.setIfInBounds_toArray, List.set_cons_zero, List.set_cons_succ]
  refine wpAnyH_take (i := 3) (oi := ⟨some 74, _, _, _, _, _⟩) (v := ?vba4) rfl (by kernel_rfl) (by kernel_rfl) (by kernel_rfl) (fun _ _ _ h => h) (Or.inl ⟨by rfl, ?hyba4⟩) (by assumption) ?restba4
  case hyba4 => (intro V hSw; (try dsimp only at hSw); go_simp; first | done | (with_reducible rfl))
  try simp only [Act.put, List.setIfInBounds_toArray, List.set_cons_zero, List.set_cons_succ]
  refine wpAnyH_take (i := 4) (oi := ⟨some 75, _, _, _, _, _⟩) (v := ?vba5) rfl (by kernel_rfl) (by kernel_rfl) (by kernel_rfl) (fun _ _ _ h => h) (Or.inl ⟨by rfl, ?hyba5⟩) (by assumption) ?restba5
  case hyba5 => (intro V hSw; (try dsimp only at hSw); go_simp; first | done | (with_reducible rfl))
  try simp only [Act.put, List.setIfInBounds_toArray, List.set_cons_zero, List.set_cons_succ]
  refine wpAnyH_take (i := 6) (oi := ⟨some 77, _, _, _, _, _⟩) (v := ?vba6) rfl (by kernel_rfl) (by kernel_rfl) (by kernel_rfl) (fun _ _ _ h => h) (Or.inl ⟨by rfl, ?hyba6⟩) (by assumption) ?restba6
  case hyba6 => (intro V hSw; (try dsimp only at hSw); obtain ⟨y0, y1, y2, y3, y4⟩ := KX.out V hSw; go_simp; first | done | (with_reducible rfl))
  try simp only [Act.put, List.setIfInBounds_toArray, List.set_cons_zero, List.set_cons_succ]
  refine wpAnyH_ready (rs := [5]) (by kernel_rfl) (by simp) ?_
  refine AllReadyH.cons (o := ⟨some 76, _, _, _, _, _⟩) rfl (fun K hK => ?_) (AllReadyH.nil)
  rw [if_pos (by rfl)]
  go_simp
  (with_reducible refine (AT.out _ hHeld).mono ?_); rintro e u1 ⟨rfl, o'⟩; have OS := hide (show Only [] V u1 from (show Only [] V u0 from hHeld).trans0 o'); clear o'
  try dsimp only
  refine hK.out _ _ (OS.out) (fun hHeld => ?_)
  clear hK K
  try simp only [Act.put, List.setIfInBounds_toArray, List.set_cons_zero, List.set_cons_succ]
  refine wpAnyH_take (i := 7) (oi := ⟨some 78, _, _, _, _, _⟩) (v := ?vba7) rfl (by kernel_rfl) (by kernel_rfl) (by kernel_rfl) (fun _ _ _ h => h) (Or.inl ⟨by rfl, ?hyba7⟩) (by assumption) ?restba7
  case hyba7 => (intro V hSw; (try dsimp only at hSw); go_simp; first | done | (with_reducible rfl))
  try simp only [Act.put, List.setIfInBounds_toArray, List.set_cons_zero, List.set_cons_succ]
  refine wpAnyH_take (i := 8) (oi := ⟨some 79, _, _, _, _, _⟩) (v := ?vba8) rfl (by kernel_rfl) (by kernel_rfl) (by kernel_rfl) (fun _ _ _ h => h) (Or.inl ⟨by rfl, ?hyba8⟩) (by assumption) ?restba8
  case hyba8 => (intro V hSw; (try dsimp only at hSw); go_simp; first | done | (with_reducible rfl))
  try simp only [Act.put, List.setIfInBounds_toArray, List.set_cons_zero, List.set_cons_succ]
  refine wpAnyH_take (i := 9) (oi := ⟨some 80, _, _, _, _, _⟩) (v := ?vba9) rfl (by kernel_rfl) (by kernel_rfl) (by kernel_rfl) (fun _ _ _ h => h) (Or.inl ⟨by rfl, ?hyba9⟩) (by assumption) ?restba9
  case hyba9 => (intro V hSw; (try dsimp only at hSw); go_simp; first | done | (with_reducible rfl))
  try simp only [Act.put, List.setIfInBounds_toArray, List.set_cons_zero, List.set_cons_succ]
  refine wpAnyH_take (i := 10) (oi := ⟨some 81, _, _, _, _, _⟩) (v := ?vba10) rfl (by kernel_rfl) (by kernel_rfl) (by kernel_rfl) (fun _ _ _ h => h) (Or.inl ⟨by rfl, ?hyba10⟩) (by assumption) ?restba10
  case hyba10 => (intro V hSw; (try dsimp only at hSw); go_simp; first | done | (with_reducible rfl))
  try simp only [Act.put, List.setIfInBounds_toArray, List.set_cons_zero, List.set_cons_succ]
  refine wpAnyH_take (i := 11) (oi := ⟨some 82, _, _, _, _, _⟩) (v := ?vba11) rfl (by kernel_rfl) (by kernel_rfl) (by kernel_rfl) (fun _ _ _ h => h) (Or.inl ⟨by rfl, ?hyba11⟩) (by assumption) ?restba11
  case hyba11 => (intro V hSw; (try dsimp only at hSw); go_simp; first | done | (with_reducible rfl))
  try simp only [Act.put, List.setIfInBounds_toArray, List.set_cons_zero, List.set_cons_succ]
  refine wpAnyH_take (i := 12) (oi := ⟨some 83, _, _, _, _, _⟩) (v := ?vba12) rfl (by kernel_rfl) (by kernel_rfl) (by kernel_rfl) (fun _ _ _ h => h) (Or.inl ⟨by rfl, ?hyba12⟩) (by assumption) ?restba12
  case hyba12 => (intro V hSw; (try dsimp only at hSw); go_simp; first | done | (with_reducible rfl))
  try simp only [Act.put, List.setIfInBounds_toArray, List.set_cons_zero, List.set_cons_succ]
  refine wpAnyH_take (i := 13) (oi := ⟨some 84, _, _, _, _, _⟩) (v := ?vba13) rfl (by kernel_rfl) (by kernel_rfl) (by kernel_rfl) (fun _ _ _ h => h) (Or.inl ⟨by rfl, ?hyba13⟩) (by assumption) ?restba13
  case hyba13 => (intro V hSw; (try dsimp only at hSw); go_simp; first | done | (with_reducible rfl))
  try simp only [Act.put, List.setIfInBounds_toArray, List.set_cons_zero, List.set_cons_succ]
  refine wpAnyH_take (i := 14) (oi := ⟨some 85, _, _, _, _, _⟩) (v := ?vba14) rfl (by kernel_rfl) (by kernel_rfl) (by kernel_rfl) (fun _ _ _ h => h) (Or.inl ⟨by rfl, ?hyba14⟩) (by assumption) ?restba14
  case hyba14 => (intro V hSw; (try dsimp only at hSw); go_simp; first | done | (with_reducible rfl))
  try simp only [Act.put, List.setIfInBounds_toArray, List.set_cons_zero, List.set_cons_succ]
  refine wpAnyH_take (i := 16) (oi := ⟨some 87, _, _, _, _, _⟩) (v := ?vba15) rfl (by kernel_rfl) (by kernel_rfl) (by kernel_rfl) (fun _ _ _ h => h) (Or.inl ⟨by rfl, ?hyba15⟩) (by assumption) ?restba15
  case hyba15 => (intro V hSw; (try dsimp only at hSw); go_simp; first | done | (with_reducible rfl))
  try simp only [Act.put, List.setIfInBounds_toArray, List.set_cons_zero, List.set_cons_succ]
  refine wpAnyH_ready (rs := [15]) (by kernel_rfl) (by simp) ?_
  refine AllReadyH.cons (o := ⟨some 86, _, _, _, _, _⟩) rfl (fun K hK => ?_) (AllReadyH.nil)
  rw [if_pos (by rfl)]
  go_simp
  (with_reducible refine (num_any _ _).mono ?_); rintro e u2 ⟨rfl, hu⟩; have OS := hide (show Only [] V u2 from by rw [hu]; exact (show Only [] V u1 from hHeld)); clear hu
  try dsimp only
  refine hK.out _ _ (OS.out) (fun hHeld => ?_)
  clear hK K
  try simp only [Act.put, List.setIfInBounds_toArray, List.set_cons_zero, List.set_cons_succ]
  refine wpAnyH_take (i := 17) (oi := ⟨some 88, _, _, _, _, _⟩) (v := ?vba16) rfl (by kernel_rfl) (by kernel_rfl) (by kernel_rfl) (fun _ _ _ h => h) (Or.inl ⟨by rfl, ?hyba16⟩) (by assumption) ?restba16
  case hyba16 => (intro V hSw; (try dsimp only at hSw); go_simp; first | done | (with_reducible rfl))
  try simp only [Act.put, List.setIfInBounds_toArray, List.set_cons_zero, List.set_cons_succ]
  refine wpAnyH_take (i := 18) (oi := ⟨some 89, _, _, _, _, _⟩) (v := ?vba17) rfl (by kernel_rfl) (by kernel_rfl) (by kernel_rfl) (fun _ _ _ h => h) (Or.inl ⟨by rfl, ?hyba17⟩) (by assumption) ?restba17
  case hyba17 => (intro V hSw; (try dsimp only at hSw); go_simp; first | done | (with_reducible rfl))
  try simp only [Act.put, List.setIfInBounds_toArray, List.set_cons_zero, List.set_cons_succ]
  refine wpAnyH_take (i := 19) (oi := ⟨some 90, _, _, _, _, _⟩) (v := ?vba18) rfl (by kernel_rfl) (by kernel_rfl) (by kernel_rfl) (fun _ _ _ h => h) (Or.inl ⟨by rfl, ?hyba18⟩) (by assumption) ?restba18
  case hyba18 => (intro V hSw; (try dsimp only at hSw); go_simp; first | done | (with_reducible rfl))
  try simp only [Act.put, List.setIfInBounds_toArray, List.set_cons_zero, List.set_cons_succ]
  refine wpAnyH_take (i := 20) (oi := ⟨some 91, _, _, _, _, _⟩) (v := ?vba19) rfl (by kernel_rfl) (by kernel_rfl) (by kernel_rfl) (fun _ _ _ h => h) (Or.inl ⟨by rfl, ?hyba19⟩) (by assumption) ?restba19
  case hyba19 => (intro V hSw; (try dsimp only at hSw); go_simp; first | done | (with_reducible rfl))
  try simp only [Act.put, List.setIfInBounds_toArray, List.set_cons_zero, List.set_cons_succ]
  refine wpAnyH_take (i := 21) (oi := ⟨some 92, _, _, _, _, _⟩) (v := ?vba20) rfl (by kernel_rfl) (by kernel_rfl) (by kernel_rfl) (fun _ _ _ h => h) (Or.inl ⟨by rfl, ?hyba20⟩) (by assumption) ?restba20
  case hyba20 => (intro V hSw; (try dsimp only at hSw); go_simp; first | done | (with_reducible rfl))
  try simp only [Act.put, List.setIfInBounds_toArray, List.set_cons_zero, List.set_cons_succ]
  refine wpAnyH_take (i := 22) (oi := ⟨some 93, _, _, _, _, _⟩) (v := ?vba21) rfl (by kernel_rfl) (by kernel_rfl) (by kernel_rfl) (fun _ _ _ h => h) (Or.inl ⟨by rfl, ?hyba21⟩) (by assumption) ?restba21
  case hyba21 => (intro V hSw; (try dsimp only at hSw); go_simp; first | done | (with_reducible rfl))
  try simp only [Act.put, List.setIfInBounds_toArray, List.set_cons_zero, List.set_cons_succ]
  refine wpAnyH_take (i := 23) (oi := ⟨some 94, _, _, _, _, _⟩) (v := ?vba22) rfl (by kernel_rfl) (by kernel_rfl) (by kernel_rfl) (fun _ _ _ h => h) (Or.inl ⟨by rfl, ?hyba22⟩) (by assumption) ?restba22
  case hyba22 => (intro V hSw; (try dsimp only at hSw); go_simp; first | done | (with_reducible rfl))
  try simp only [Act.put, List.setIfInBounds_toArray, List.set_cons_zero, List.set_cons_succ]
  refine wpAnyH_take (i := 24) (oi := ⟨some 95, _, _, _, _, _⟩) (v := ?vba23) rfl (by kernel_rfl) (by kernel_rfl) (by kernel_rfl) (fun _ _ _ h => h) (Or.inl ⟨by rfl, ?hyba23⟩) (by assumption) ?restba23
  case hyba23 => (intro V hSw; (try dsimp only at hSw); go_simp; first | done | (with_reducible rfl))
  try simp only [Act.put, List.setIfInBounds_toArray, List.set_cons_zero, List.set_cons_succ]
  refine wpAnyH_ready (rs := [25]) (by kernel_rfl) (by simp) ?_
  refine AllReadyH.cons (o := ⟨some 96, _, _, _, _, _⟩) rfl (fun K hK => ?_) (AllReadyH.nil)
  rw [if_pos (by rfl)]
  go_simp
  (with_reducible refine (SM.out _ hHeld).mono ?_); rintro e u3 ⟨rfl, o'⟩; have OS := hide (show Only [] V u3 from (show Only [] V u2 from hHeld).trans0 o'); clear o'
  try dsimp only
  refine hK.out _ _ (OS.out) (fun hHeld => ?_)
  clear hK K
  try simp only [Act.put, List.setIfInBounds_toArray, List.set_cons_zero, List.set_cons_succ]
  refine wpAnyH_take (i := 26) (oi := ⟨some 97, _, _, _, _, _⟩) (v := ?vba24) rfl (by kernel_rfl) (by kernel_rfl) (by kernel_rfl) (fun _ _ _ h => h) (Or.inl ⟨by rfl, ?hyba24⟩) (by assumption) ?restba24
  case hyba24 => (intro V hSw; (try dsimp only at hSw); go_simp; first | done | (with_reducible rfl))
  try simp only [Act.put, List.setIfInBounds_toArray, List.set_cons_zero, List.set_cons_succ]
  refine wpAnyH_take (i := 27) (oi := ⟨some 98, _, _, _, _, _⟩) (v := ?vba25) rfl (by kernel_rfl) (by kernel_rfl) (by kernel_rfl) (fun _ _ _ h => h) (Or.inl ⟨by rfl, ?hyba25⟩) (by assumption) ?restba25
  case hyba25 => (intro V hSw; (try dsimp only at hSw); go_simp; first | done | (with_reducible rfl))
  try simp only [Act.put, List.setIfInBounds_toArray, List.set_cons_zero, List.set_cons_succ]
  refine wpAnyH_take (i := 28) (oi := ⟨some 99, _, _, _, _, _⟩) (v := ?vba26) rfl (by kernel_rfl) (by kernel_rfl) (by kernel_rfl) (fun _ _ _ h => h) (Or.inl ⟨by rfl, ?hyba26⟩) (by assumption) ?restba26
  case hyba26 => (intro V hSw; (try dsimp only at hSw); go_simp; first | done | (with_reducible rfl))
  try simp only [Act.put, List.setIfInBounds_toArray, List.set_cons_zero, List.set_cons_succ]
  refine wpAnyH_take (i := 29) (oi := ⟨some 100, _, _, _, _, _⟩) (v := ?vba27) rfl (by kernel_rfl) (by kernel_rfl) (by kernel_rfl) (fun _ _ _ h => h) (Or.inl ⟨by rfl, ?hyba27⟩) (by assumption) ?restba27
  case hyba27 => (intro V hSw; (try dsimp only at hSw); go_simp; first | done | (with_reducible rfl))
  try simp only [Act.put, List.setIfInBounds_toArray, List.set_cons_zero, List.set_cons_succ]
  refine wpAnyH_take (i := 30) (oi := ⟨some 101, _, _, _, _, _⟩) (v := ?vba28) rfl (by kernel_rfl) (by kernel_rfl) (by kernel_rfl) (fun _ _ _ h => h) (Or.inl ⟨by rfl, ?hyba28⟩) (by assumption) ?restba28
  case hyba28 => (intro V hSw; (try dsimp only at hSw); go_simp; first | done | (with_reducible rfl))
  try simp only [Act.put, List.setIfInBounds_toArray, List.set_cons_zero, List.set_cons_succ]
  refine wpAnyH_take (i := 31) (oi := ⟨some 102, _, _, _, _, _⟩) (v := ?vba29) rfl (by kernel_rfl) (by kernel_rfl) (by kernel_rfl) (fun _ _ _ h => h) (Or.inl ⟨by rfl, ?hyba29⟩) (by assumption) ?restba29
  case hyba29 => (intro V hSw; (try dsimp only at hSw); go_simp; first | done | (with_reducible rfl))
  try simp only [Act.put, List.setIfInBounds_toArray, List.set_cons_zero, List.set_cons_succ]
  refine wpAnyH_take (i := 32) (oi := ⟨some 103, _, _, _, _, _⟩) (v := ?vba30) rfl (by kernel_rfl) (by kernel_rfl) (by kernel_rfl) (fun _ _ _ h => h) (Or.inl ⟨by rfl, ?hyba30⟩) (by assumption) ?restba30
  case hyba30 => (intro V hSw; (try dsimp only at hSw); go_simp; first | done | (with_reducible rfl))
  try simp only [Act.put, List.setIfInBounds_toArray, List.set_cons_zero, List.set_cons_succ]
  refine wpAnyH_take (i := 33) (oi := ⟨some 104, _, _, _, _, _⟩) (v := ?vba31) rfl (by kernel_rfl) (by kernel_rfl) (by kernel_rfl) (fun _ _ _ h => h) (Or.inl ⟨by rfl, ?hyba31⟩) (by assumption) ?restba31
  case hyba31 => (intro V hSw; (try dsimp only at hSw); go_simp; first | done | (with_reducible rfl))
  try simp only [Act.put, List.setIfInBounds_toArray, List.set_cons_zero, List.set_cons_succ]
  refine wpAnyH_take (i := 34) (oi := ⟨some 105, _, _, _, _, _⟩) (v := ?vba32) rfl (by kernel_rfl) (by kernel_rfl) (by kernel_rfl) (fun _ _ _ h => h) (Or.inl ⟨by rfl, ?hyba32⟩) (by assumption) ?restba32
  case hyba32 => (intro V hSw; (try dsimp only at hSw); have y7 := K7.out V hSw; go_simp; first | done | (with_reducible rfl))
  try simp only [Act.put, List.setIfInBounds_toArray, List.set_cons_zero, List.set_cons_succ]
  refine wpAnyH_take (i := 35) (oi := ⟨some 106, _, _, _, _, _⟩) (v := ?vba33) rfl (by kernel_rfl) (by kernel_rfl) (by kernel_rfl) (fun _ _ _ h => h) (Or.inl ⟨by rfl, ?hyba33⟩) (by assumption) ?restba33
  case hyba33 => (intro V hSw; (try dsimp only at hSw); go_simp; first | done | (with_reducible rfl))
  try simp only [Act.put, List.setIfInBounds_toArray, List.set_cons_zero, List.set_cons_succ]
  refine wpAnyH_take (i := 36) (oi := ⟨some 107, _, _, _, _, _⟩) (v := ?vba34) rfl (by kernel_rfl) (by kernel_rfl) (by kernel_rfl) (fun _ _ _ h => h) (Or.inl ⟨by rfl, ?hyba34⟩) (by assumption) ?restba34
  case hyba34 => (intro V hSw; (try dsimp only at hSw); go_simp; first | done | (with_reducible rfl))
  try simp only [Act.put, List.setIfInBounds_toArray, List.set_cons_zero, List.set_cons_succ]
  refine wpAnyH_done (by kernel_rfl) ?_ _
  have OV := hide ((HW2.out.trans0 QV.out).trans0 OS.out)
  clear hHeld OS KX AT SM K7 QV
  go_wp2_with (first
    | (go_at_call 11; (with_reducible refine (num_any _ _).mono ?_); rintro e v1 ⟨rfl, rfl⟩)
    | (go_at_call 13; (with_reducible refine (KN.out _ OV.out).mono ?_); rintro e v9 ⟨rfl, o'⟩; have O9 := hide (OV.out.trans0 o'); clear o'))
  go_ret
  exact ⟨rfl, O9.out⟩
set_option maxHeartbeats 32000000 in
theorem prog_bad1 (A : Option Addr) (n c : Nat) (f : Nat → Ins) (pc : Int) (w : World) (hA : InsAt w A n f) (hn : n ≤ maxLen) (hi : ∀ k, k < n → -9223372036854775808 ≤ (f k).imm ∧ (f k).imm ≤ 9223372036854775807) (he : Env w) (hw4 : 4 ≤ w.heap.size) (h600 : ¬ 600 < n) (hb : badP n f = true) (hp : ¬ (0 ≤ pc ∧ pc < n)) (hp2 : pc < 0) : Calls Tryz.prog 4 #[.slice A n c, .int .i64 pc] w fun e w' => e = .returned (.bool true) ∧ Only [] w w' := by
  have KN := hide (fun W (o : Only [] w W) => known_any W (he.only o) (by have := o.size; omega))
  have e0 : decide ((600 : Int) < (n : Int)) = false := decide_eq_false (by omega)
  have e1 : decide (600 < n) = false := decide_eq_false h600
  obtain ⟨A1, c1, w1, hrun1, hI1, ho1⟩ := app_prog A n c f w hA (by omega)
  obtain ⟨g2, c2, w2, hrun2, hI2, ho2⟩ := app_ins w1 w.heap.size A1 c1 (pOf n f) ⟨77, 0, 0, 0, 0⟩ hI1 (by rw [pOf_len]; omega) ho1.size
  rw [i77_def, pOf_len] at hrun2
  obtain ⟨hO, h77, hcap⟩ := own_facts hI2
  have hw2 : Only [] w w2 := ho1.trans ho2 (fun x hx => .inr (own_ge hI1 x hx).1)
  have HW2 := hide hw2
  have CK := fun U (o : Only [] w2 U) => check_any (some ⟨g2, 0, none⟩) n c2 f U (hO.only0 o) hn
  have RC := fun U (o : Only [] w2 U) => rcheck_any A n c f U (hA.only0 (hw2.trans0 o)) hn
  have AT := hide (fun U (o : Only [] w2 U) => at_any (some ⟨g2, 0, none⟩) n c2 f pc U (hO.only0 o))
  have SM := hide (fun U (o : Only [] w2 U) => by have := rsame_any (some ⟨g2, 0, none⟩) n c2 f A n c f U (hO.only0 o) (hA.only0 (hw2.trans0 o)) hn; rw [sameB_self n f f (fun _ _ => rfl)] at this; exact this)
  have K7 := hide (fun U (o : Only [] w2 U) => o.keep0 h77)
  have HO := hide hO
  have HA := hide hA
  have j9 : n ≤ c2 := by omega
  have j8 : (n : Int) ≤ (c2 : Int) := by omega
  have j7 : (n : Int) < (n : Int) + 1 := by omega
  unfold maxLen at hn
  obtain ⟨x, hx⟩ := bad_chk hb
  rw [hx] at CK RC
  have CK := hide CK
  have RC := hide RC
  have LI := hide (fun U (o : Only [] w2 U) => list_bad (some ⟨g2, 0, none⟩) n c2 f U (HO.out.only0 o) (by unfold maxLen; omega) hb)
  have PU := hide (fun U (o : Only [] w2 U) => put_bad (some ⟨g2, 0, none⟩) n c2 f U (HO.out.only0 o) (by unfold maxLen; omega) hb)
  clear hx hb hI1 hI2 ho1 ho2 hw2 hO h77 hcap hA hi he hw4 h600
  have hai : atI n f pc = ⟨0, 0, 0, 0, 0⟩ := by unfold atI; rw [if_neg (by omega)]
  rw [hai] at AT
  have k2 : decide ((0 : Int) ≤ pc) = false := decide_eq_false (by omega)
  clear hai hp
  unfold insV at AT
  simp only at AT
  go_enter Tryz.func4, Tryz.ntmps4
  go_wp2_with (first
    | (go_at_call 7; (with_reducible refine (CK.out _ (Only.refl _ _)).mono ?_); rintro e w3 ⟨rfl, o'⟩; have Q3 := hide o'; clear o')
    | (go_at_call 6; (with_reducible refine (LI.out _ Q3.out).mono ?_); rintro e w4 ⟨rfl, o'⟩; have Q4 := hide (Q3.out.trans0 o'); clear o')
    | (go_at_call 14; (with_reducible refine (PU.out _ Q4.out).mono ?_); rintro e w5 ⟨rfl, o'⟩; have Q5 := hide (Q4.out.trans0 o'); clear o')
    | (go_at_call 15; (with_reducible refine (RC.out _ Q5.out).mono ?_); rintro e w6 ⟨rfl, o'⟩; have Q6 := hide (Q5.out.trans0 o'); clear o'))
  obtain ⟨X, hX⟩ : ∃ X, w6.heap.size = X := ⟨_, rfl⟩
  have nb := Blk.new w6 25 #[.int .i64 0, .int .i64 0, .int .i64 0, .int .i64 0, .int .i64 0]
  have QV := hide (Q6.out.alloc (.cells #[.int .i64 0, .int .i64 0, .int .i64 0, .int .i64 0, .int .i64 0] 25))
  obtain ⟨V, hV⟩ : ∃ V, w6.alloc (.cells #[.int .i64 0, .int .i64 0, .int .i64 0, .int .i64 0, .int .i64 0] 25) = V := ⟨_, rfl⟩
  rw [hV, hX] at nb
  rw [hV] at QV
  rw [hV]
  simp only [hX]
  have KX := hide (fun U1 (oo : Only [] V U1) => show U1.cell? ⟨X, 0, none⟩ = some (.int .i64 0) ∧ U1.cell? ⟨X, 1, none⟩ = some (.int .i64 0) ∧ U1.cell? ⟨X, 2, none⟩ = some (.int .i64 0) ∧ U1.cell? ⟨X, 3, none⟩ = some (.int .i64 0) ∧ U1.cell? ⟨X, 4, none⟩ = some (.int .i64 0) from by have := nb.only oo (by simp); exact ⟨this.cell 0, this.cell 1, this.cell 2, this.cell 3, this.cell 4⟩)
  have AT := hide (fun U1 (oo : Only [] V U1) => AT.out U1 (QV.out.trans0 oo))
  have SM := hide (fun U1 (oo : Only [] V U1) => SM.out U1 (QV.out.trans0 oo))
  have K7 := hide (fun U1 (oo : Only [] V U1) => K7.out U1 (QV.out.trans0 oo))
  clear hV hX nb
  refine wp_region_held_drew (S := (fun U1 => Only [] V U1)) (by kernel_rfl) ((Only.refl _ V).drew) (fun hHeld => ?_)
  revert hHeld
  generalize V.drew = u0
  intro hHeld
  refine wpAnyH_take (i := 0) (oi := ⟨some 71, _, _, _, _, _⟩) (v := ?vbb1) rfl (by kernel_rfl) (by kernel_rfl) (by kernel_rfl) (fun _ _ _ h => h) (Or.inl ⟨by rfl, ?hybb1⟩) (by assumption) ?restbb1
  case hybb1 => (intro V hSw; (try dsimp only at hSw); go_simp; first | done | (with_reducible rfl))
  try simp only [Act.put, List.setIfInBounds_toArray, List.set_cons_zero, List.set_cons_succ]
  refine wpAnyH_take (i := 1) (oi := ⟨some 72, _, _, _, _, _⟩) (v := ?vbb2) rfl (by kernel_rfl) (by kernel_rfl) (by kernel_rfl) (fun _ _ _ h => h) (Or.inl ⟨by rfl, ?hybb2⟩) (by assumption) ?restbb2
  case hybb2 => (intro V hSw; (try dsimp only at hSw); go_simp; first | done | (with_reducible rfl))
  try simp only [Act.put, List.setIfInBounds_toArray, List.set_cons_zero, List.set_cons_succ]
  refine wpAnyH_take (i := 2) (oi := ⟨some 73, _, _, _, _, _⟩) (v := ?vbb3) rfl (by kernel_rfl) (by kernel_rfl) (by kernel_rfl) (fun _ _ _ h => h) (Or.inl ⟨by rfl, ?hybb3⟩) (by assumption) ?restbb3
  case hybb3 => (intro V hSw; (try dsimp only at hSw); go_simp; first | done | (with_reducible rfl))
  try simp only [Act.put, List.setIfInBounds_toArray, List.set_cons_zero, List.set_cons_succ]
  refine wpAnyH_take (i := 3) (oi := ⟨some 74, _, _, _, _, _⟩) (v := ?vbb4) rfl (by kernel_rfl) (by kernel_rfl) (by kernel_rfl) (fun _ _ _ h => h) (Or.inl ⟨by rfl, ?hybb4⟩) (by assumption) ?restbb4
  case hybb4 => (intro V hSw; (try dsimp only at hSw); go_simp; first | done | (with_reducible rfl))
  try simp only [Act.put, List.setIfInBounds_toArray, List.set_cons_zero, List.set_cons_succ]
  refine wpAnyH_take (i := 4) (oi := ⟨some 75, _, _, _, _, _⟩) (v := ?vbb5) rfl (by kernel_rfl) (by kernel_rfl) (by kernel_rfl) (fun _ _ _ h => h) (Or.inl ⟨by rfl, ?hybb5⟩) (by assumption) ?restbb5
  case hybb5 => (intro V hSw; (try dsimp only at hSw); go_simp; first | done | (with_reducible rfl))
  try simp only [Act.put, List.setIfInBounds_toArray, List.set_cons_zero, List.set_cons_succ]
  refine wpAnyH_take (i := 6) (oi := ⟨some 77, _, _, _, _, _⟩) (v := ?vbb6) rfl (by kernel_rfl) (by kernel_rfl) (by kernel_rfl) (fun _ _ _ h => h) (Or.inl ⟨by rfl, ?hybb6⟩) (by assumption) ?restbb6
  case hybb6 => (intro V hSw; (try dsimp only at hSw); obtain ⟨y0, y1, y2, y3, y4⟩ := KX.out V hSw; go_simp; first | done | (with_reducible rfl))
  try simp only [Act.put, List.setIfInBounds_toArray, List.set_cons_zero, List.set_cons_succ]
  refine wpAnyH_ready (rs := [5]) (by kernel_rfl) (by simp) ?_
  refine AllReadyH.cons (o := ⟨some 76, _, _, _, _, _⟩) rfl (fun K hK => ?_) (AllReadyH.nil)
  rw [if_pos (by rfl)]
  go_simp
  (with_reducible refine (AT.out _ hHeld).mono ?_); rintro e u1 ⟨rfl, o'⟩; have OS := hide (show Only [] V u1 from (show Only [] V u0 from hHeld).trans0 o'); clear o'
  try dsimp only
  refine hK.out _ _ (OS.out) (fun hHeld => ?_)
  clear hK K
  try simp only [Act.put, List.setIfInBounds_toArray, List.set_cons_zero, List.set_cons_succ]
  refine wpAnyH_take (i := 7) (oi := ⟨some 78, _, _, _, _, _⟩) (v := ?vbb7) rfl (by kernel_rfl) (by kernel_rfl) (by kernel_rfl) (fun _ _ _ h => h) (Or.inl ⟨by rfl, ?hybb7⟩) (by assumption) ?restbb7
  case hybb7 => (intro V hSw; (try dsimp only at hSw); go_simp; first | done | (with_reducible rfl))
  try simp only [Act.put, List.setIfInBounds_toArray, List.set_cons_zero, List.set_cons_succ]
  refine wpAnyH_take (i := 8) (oi := ⟨some 79, _, _, _, _, _⟩) (v := ?vbb8) rfl (by kernel_rfl) (by kernel_rfl) (by kernel_rfl) (fun _ _ _ h => h) (Or.inl ⟨by rfl, ?hybb8⟩) (by assumption) ?restbb8
  case hybb8 => (intro V hSw; (try dsimp only at hSw); go_simp; first | done | (with_reducible rfl))
  try simp only [Act.put, List.setIfInBounds_toArray, List.set_cons_zero, List.set_cons_succ]
  refine wpAnyH_take (i := 9) (oi := ⟨some 80, _, _, _, _, _⟩) (v := ?vbb9) rfl (by kernel_rfl) (by kernel_rfl) (by kernel_rfl) (fun _ _ _ h => h) (Or.inl ⟨by rfl, ?hybb9⟩) (by assumption) ?restbb9
  case hybb9 => (intro V hSw; (try dsimp only at hSw); go_simp; first | done | (with_reducible rfl))
  try simp only [Act.put, List.setIfInBounds_toArray, List.set_cons_zero, List.set_cons_succ]
  refine wpAnyH_take (i := 10) (oi := ⟨some 81, _, _, _, _, _⟩) (v := ?vbb10) rfl (by kernel_rfl) (by kernel_rfl) (by kernel_rfl) (fun _ _ _ h => h) (Or.inl ⟨by rfl, ?hybb10⟩) (by assumption) ?restbb10
  case hybb10 => (intro V hSw; (try dsimp only at hSw); go_simp; first | done | (with_reducible rfl))
  try simp only [Act.put, List.setIfInBounds_toArray, List.set_cons_zero, List.set_cons_succ]
  refine wpAnyH_take (i := 11) (oi := ⟨some 82, _, _, _, _, _⟩) (v := ?vbb11) rfl (by kernel_rfl) (by kernel_rfl) (by kernel_rfl) (fun _ _ _ h => h) (Or.inl ⟨by rfl, ?hybb11⟩) (by assumption) ?restbb11
  case hybb11 => (intro V hSw; (try dsimp only at hSw); go_simp; first | done | (with_reducible rfl))
  try simp only [Act.put, List.setIfInBounds_toArray, List.set_cons_zero, List.set_cons_succ]
  refine wpAnyH_take (i := 12) (oi := ⟨some 83, _, _, _, _, _⟩) (v := ?vbb12) rfl (by kernel_rfl) (by kernel_rfl) (by kernel_rfl) (fun _ _ _ h => h) (Or.inl ⟨by rfl, ?hybb12⟩) (by assumption) ?restbb12
  case hybb12 => (intro V hSw; (try dsimp only at hSw); go_simp; first | done | (with_reducible rfl))
  try simp only [Act.put, List.setIfInBounds_toArray, List.set_cons_zero, List.set_cons_succ]
  refine wpAnyH_take (i := 13) (oi := ⟨some 84, _, _, _, _, _⟩) (v := ?vbb13) rfl (by kernel_rfl) (by kernel_rfl) (by kernel_rfl) (fun _ _ _ h => h) (Or.inl ⟨by rfl, ?hybb13⟩) (by assumption) ?restbb13
  case hybb13 => (intro V hSw; (try dsimp only at hSw); go_simp; first | done | (with_reducible rfl))
  try simp only [Act.put, List.setIfInBounds_toArray, List.set_cons_zero, List.set_cons_succ]
  refine wpAnyH_take (i := 14) (oi := ⟨some 85, _, _, _, _, _⟩) (v := ?vbb14) rfl (by kernel_rfl) (by kernel_rfl) (by kernel_rfl) (fun _ _ _ h => h) (Or.inl ⟨by rfl, ?hybb14⟩) (by assumption) ?restbb14
  case hybb14 => (intro V hSw; (try dsimp only at hSw); go_simp; first | done | (with_reducible rfl))
  try simp only [Act.put, List.setIfInBounds_toArray, List.set_cons_zero, List.set_cons_succ]
  refine wpAnyH_take (i := 16) (oi := ⟨some 87, _, _, _, _, _⟩) (v := ?vbb15) rfl (by kernel_rfl) (by kernel_rfl) (by kernel_rfl) (fun _ _ _ h => h) (Or.inl ⟨by rfl, ?hybb15⟩) (by assumption) ?restbb15
  case hybb15 => (intro V hSw; (try dsimp only at hSw); go_simp; first | done | (with_reducible rfl))
  try simp only [Act.put, List.setIfInBounds_toArray, List.set_cons_zero, List.set_cons_succ]
  refine wpAnyH_ready (rs := [15]) (by kernel_rfl) (by simp) ?_
  refine AllReadyH.cons (o := ⟨some 86, _, _, _, _, _⟩) rfl (fun K hK => ?_) (AllReadyH.nil)
  rw [if_pos (by rfl)]
  go_simp
  (with_reducible refine (num_any _ _).mono ?_); rintro e u2 ⟨rfl, hu⟩; have OS := hide (show Only [] V u2 from by rw [hu]; exact (show Only [] V u1 from hHeld)); clear hu
  try dsimp only
  refine hK.out _ _ (OS.out) (fun hHeld => ?_)
  clear hK K
  try simp only [Act.put, List.setIfInBounds_toArray, List.set_cons_zero, List.set_cons_succ]
  refine wpAnyH_take (i := 17) (oi := ⟨some 88, _, _, _, _, _⟩) (v := ?vbb16) rfl (by kernel_rfl) (by kernel_rfl) (by kernel_rfl) (fun _ _ _ h => h) (Or.inl ⟨by rfl, ?hybb16⟩) (by assumption) ?restbb16
  case hybb16 => (intro V hSw; (try dsimp only at hSw); go_simp; first | done | (with_reducible rfl))
  try simp only [Act.put, List.setIfInBounds_toArray, List.set_cons_zero, List.set_cons_succ]
  refine wpAnyH_take (i := 18) (oi := ⟨some 89, _, _, _, _, _⟩) (v := ?vbb17) rfl (by kernel_rfl) (by kernel_rfl) (by kernel_rfl) (fun _ _ _ h => h) (Or.inl ⟨by rfl, ?hybb17⟩) (by assumption) ?restbb17
  case hybb17 => (intro V hSw; (try dsimp only at hSw); go_simp; first | done | (with_reducible rfl))
  try simp only [Act.put, List.setIfInBounds_toArray, List.set_cons_zero, List.set_cons_succ]
  refine wpAnyH_take (i := 19) (oi := ⟨some 90, _, _, _, _, _⟩) (v := ?vbb18) rfl (by kernel_rfl) (by kernel_rfl) (by kernel_rfl) (fun _ _ _ h => h) (Or.inl ⟨by rfl, ?hybb18⟩) (by assumption) ?restbb18
  case hybb18 => (intro V hSw; (try dsimp only at hSw); go_simp; first | done | (with_reducible rfl))
  try simp only [Act.put, List.setIfInBounds_toArray, List.set_cons_zero, List.set_cons_succ]
  refine wpAnyH_take (i := 20) (oi := ⟨some 91, _, _, _, _, _⟩) (v := ?vbb19) rfl (by kernel_rfl) (by kernel_rfl) (by kernel_rfl) (fun _ _ _ h => h) (Or.inl ⟨by rfl, ?hybb19⟩) (by assumption) ?restbb19
  case hybb19 => (intro V hSw; (try dsimp only at hSw); go_simp; first | done | (with_reducible rfl))
  try simp only [Act.put, List.setIfInBounds_toArray, List.set_cons_zero, List.set_cons_succ]
  refine wpAnyH_take (i := 21) (oi := ⟨some 92, _, _, _, _, _⟩) (v := ?vbb20) rfl (by kernel_rfl) (by kernel_rfl) (by kernel_rfl) (fun _ _ _ h => h) (Or.inl ⟨by rfl, ?hybb20⟩) (by assumption) ?restbb20
  case hybb20 => (intro V hSw; (try dsimp only at hSw); go_simp; first | done | (with_reducible rfl))
  try simp only [Act.put, List.setIfInBounds_toArray, List.set_cons_zero, List.set_cons_succ]
  refine wpAnyH_take (i := 22) (oi := ⟨some 93, _, _, _, _, _⟩) (v := ?vbb21) rfl (by kernel_rfl) (by kernel_rfl) (by kernel_rfl) (fun _ _ _ h => h) (Or.inl ⟨by rfl, ?hybb21⟩) (by assumption) ?restbb21
  case hybb21 => (intro V hSw; (try dsimp only at hSw); go_simp; first | done | (with_reducible rfl))
  try simp only [Act.put, List.setIfInBounds_toArray, List.set_cons_zero, List.set_cons_succ]
  refine wpAnyH_take (i := 23) (oi := ⟨some 94, _, _, _, _, _⟩) (v := ?vbb22) rfl (by kernel_rfl) (by kernel_rfl) (by kernel_rfl) (fun _ _ _ h => h) (Or.inl ⟨by rfl, ?hybb22⟩) (by assumption) ?restbb22
  case hybb22 => (intro V hSw; (try dsimp only at hSw); go_simp; first | done | (with_reducible rfl))
  try simp only [Act.put, List.setIfInBounds_toArray, List.set_cons_zero, List.set_cons_succ]
  refine wpAnyH_take (i := 24) (oi := ⟨some 95, _, _, _, _, _⟩) (v := ?vbb23) rfl (by kernel_rfl) (by kernel_rfl) (by kernel_rfl) (fun _ _ _ h => h) (Or.inl ⟨by rfl, ?hybb23⟩) (by assumption) ?restbb23
  case hybb23 => (intro V hSw; (try dsimp only at hSw); go_simp; first | done | (with_reducible rfl))
  try simp only [Act.put, List.setIfInBounds_toArray, List.set_cons_zero, List.set_cons_succ]
  refine wpAnyH_ready (rs := [25]) (by kernel_rfl) (by simp) ?_
  refine AllReadyH.cons (o := ⟨some 96, _, _, _, _, _⟩) rfl (fun K hK => ?_) (AllReadyH.nil)
  rw [if_pos (by rfl)]
  go_simp
  (with_reducible refine (SM.out _ hHeld).mono ?_); rintro e u3 ⟨rfl, o'⟩; have OS := hide (show Only [] V u3 from (show Only [] V u2 from hHeld).trans0 o'); clear o'
  try dsimp only
  refine hK.out _ _ (OS.out) (fun hHeld => ?_)
  clear hK K
  try simp only [Act.put, List.setIfInBounds_toArray, List.set_cons_zero, List.set_cons_succ]
  refine wpAnyH_take (i := 26) (oi := ⟨some 97, _, _, _, _, _⟩) (v := ?vbb24) rfl (by kernel_rfl) (by kernel_rfl) (by kernel_rfl) (fun _ _ _ h => h) (Or.inl ⟨by rfl, ?hybb24⟩) (by assumption) ?restbb24
  case hybb24 => (intro V hSw; (try dsimp only at hSw); go_simp; first | done | (with_reducible rfl))
  try simp only [Act.put, List.setIfInBounds_toArray, List.set_cons_zero, List.set_cons_succ]
  refine wpAnyH_take (i := 27) (oi := ⟨some 98, _, _, _, _, _⟩) (v := ?vbb25) rfl (by kernel_rfl) (by kernel_rfl) (by kernel_rfl) (fun _ _ _ h => h) (Or.inl ⟨by rfl, ?hybb25⟩) (by assumption) ?restbb25
  case hybb25 => (intro V hSw; (try dsimp only at hSw); go_simp; first | done | (with_reducible rfl))
  try simp only [Act.put, List.setIfInBounds_toArray, List.set_cons_zero, List.set_cons_succ]
  refine wpAnyH_take (i := 28) (oi := ⟨some 99, _, _, _, _, _⟩) (v := ?vbb26) rfl (by kernel_rfl) (by kernel_rfl) (by kernel_rfl) (fun _ _ _ h => h) (Or.inl ⟨by rfl, ?hybb26⟩) (by assumption) ?restbb26
  case hybb26 => (intro V hSw; (try dsimp only at hSw); go_simp; first | done | (with_reducible rfl))
  try simp only [Act.put, List.setIfInBounds_toArray, List.set_cons_zero, List.set_cons_succ]
  refine wpAnyH_take (i := 29) (oi := ⟨some 100, _, _, _, _, _⟩) (v := ?vbb27) rfl (by kernel_rfl) (by kernel_rfl) (by kernel_rfl) (fun _ _ _ h => h) (Or.inl ⟨by rfl, ?hybb27⟩) (by assumption) ?restbb27
  case hybb27 => (intro V hSw; (try dsimp only at hSw); go_simp; first | done | (with_reducible rfl))
  try simp only [Act.put, List.setIfInBounds_toArray, List.set_cons_zero, List.set_cons_succ]
  refine wpAnyH_take (i := 30) (oi := ⟨some 101, _, _, _, _, _⟩) (v := ?vbb28) rfl (by kernel_rfl) (by kernel_rfl) (by kernel_rfl) (fun _ _ _ h => h) (Or.inl ⟨by rfl, ?hybb28⟩) (by assumption) ?restbb28
  case hybb28 => (intro V hSw; (try dsimp only at hSw); go_simp; first | done | (with_reducible rfl))
  try simp only [Act.put, List.setIfInBounds_toArray, List.set_cons_zero, List.set_cons_succ]
  refine wpAnyH_take (i := 31) (oi := ⟨some 102, _, _, _, _, _⟩) (v := ?vbb29) rfl (by kernel_rfl) (by kernel_rfl) (by kernel_rfl) (fun _ _ _ h => h) (Or.inl ⟨by rfl, ?hybb29⟩) (by assumption) ?restbb29
  case hybb29 => (intro V hSw; (try dsimp only at hSw); go_simp; first | done | (with_reducible rfl))
  try simp only [Act.put, List.setIfInBounds_toArray, List.set_cons_zero, List.set_cons_succ]
  refine wpAnyH_take (i := 32) (oi := ⟨some 103, _, _, _, _, _⟩) (v := ?vbb30) rfl (by kernel_rfl) (by kernel_rfl) (by kernel_rfl) (fun _ _ _ h => h) (Or.inl ⟨by rfl, ?hybb30⟩) (by assumption) ?restbb30
  case hybb30 => (intro V hSw; (try dsimp only at hSw); go_simp; first | done | (with_reducible rfl))
  try simp only [Act.put, List.setIfInBounds_toArray, List.set_cons_zero, List.set_cons_succ]
  refine wpAnyH_take (i := 33) (oi := ⟨some 104, _, _, _, _, _⟩) (v := ?vbb31) rfl (by kernel_rfl) (by kernel_rfl) (by kernel_rfl) (fun _ _ _ h => h) (Or.inl ⟨by rfl, ?hybb31⟩) (by assumption) ?restbb31
  case hybb31 => (intro V hSw; (try dsimp only at hSw); go_simp; first | done | (with_reducible rfl))
  try simp only [Act.put, List.setIfInBounds_toArray, List.set_cons_zero, List.set_cons_succ]
  refine wpAnyH_take (i := 34) (oi := ⟨some 105, _, _, _, _, _⟩) (v := ?vbb32) rfl (by kernel_rfl) (by kernel_rfl) (by kernel_rfl) (fun _ _ _ h => h) (Or.inl ⟨by rfl, ?hybb32⟩) (by assumption) ?restbb32
  case hybb32 => (intro V hSw; (try dsimp only at hSw); have y7 := K7.out V hSw; go_simp; first | done | (with_reducible rfl))
  try simp only [Act.put, List.setIfInBounds_toArray, List.set_cons_zero, List.set_cons_succ]
  refine wpAnyH_take (i := 35) (oi := ⟨some 106, _, _, _, _, _⟩) (v := ?vbb33) rfl (by kernel_rfl) (by kernel_rfl) (by kernel_rfl) (fun _ _ _ h => h) (Or.inl ⟨by rfl, ?hybb33⟩) (by assumption) ?restbb33
  case hybb33 => (intro V hSw; (try dsimp only at hSw); go_simp; first | done | (with_reducible rfl))
  try simp only [Act.put, List.setIfInBounds_toArray, List.set_cons_zero, List.set_cons_succ]
  refine wpAnyH_take (i := 36) (oi := ⟨some 107, _, _, _, _, _⟩) (v := ?vbb34) rfl (by kernel_rfl) (by kernel_rfl) (by kernel_rfl) (fun _ _ _ h => h) (Or.inl ⟨by rfl, ?hybb34⟩) (by assumption) ?restbb34
  case hybb34 => (intro V hSw; (try dsimp only at hSw); go_simp; first | done | (with_reducible rfl))
  try simp only [Act.put, List.setIfInBounds_toArray, List.set_cons_zero, List.set_cons_succ]
  refine wpAnyH_done (by kernel_rfl) ?_ _
  have OV := hide ((HW2.out.trans0 QV.out).trans0 OS.out)
  clear hHeld OS KX AT SM K7 QV
  go_wp2_with (first
    | (go_at_call 11; (with_reducible refine (num_any _ _).mono ?_); rintro e v1 ⟨rfl, rfl⟩)
    | (go_at_call 13; (with_reducible refine (KN.out _ OV.out).mono ?_); rintro e v9 ⟨rfl, o'⟩; have O9 := hide (OV.out.trans0 o'); clear o'))
  go_ret
  exact ⟨rfl, O9.out⟩
set_option maxHeartbeats 32000000 in
theorem prog_bad2 (A : Option Addr) (n c : Nat) (f : Nat → Ins) (pc : Int) (w : World) (hA : InsAt w A n f) (hn : n ≤ maxLen) (hi : ∀ k, k < n → -9223372036854775808 ≤ (f k).imm ∧ (f k).imm ≤ 9223372036854775807) (he : Env w) (hw4 : 4 ≤ w.heap.size) (h600 : ¬ 600 < n) (hb : badP n f = true) (hp : ¬ (0 ≤ pc ∧ pc < n)) (hp2 : ¬ pc < 0) : Calls Tryz.prog 4 #[.slice A n c, .int .i64 pc] w fun e w' => e = .returned (.bool true) ∧ Only [] w w' := by
  have KN := hide (fun W (o : Only [] w W) => known_any W (he.only o) (by have := o.size; omega))
  have e0 : decide ((600 : Int) < (n : Int)) = false := decide_eq_false (by omega)
  have e1 : decide (600 < n) = false := decide_eq_false h600
  obtain ⟨A1, c1, w1, hrun1, hI1, ho1⟩ := app_prog A n c f w hA (by omega)
  obtain ⟨g2, c2, w2, hrun2, hI2, ho2⟩ := app_ins w1 w.heap.size A1 c1 (pOf n f) ⟨77, 0, 0, 0, 0⟩ hI1 (by rw [pOf_len]; omega) ho1.size
  rw [i77_def, pOf_len] at hrun2
  obtain ⟨hO, h77, hcap⟩ := own_facts hI2
  have hw2 : Only [] w w2 := ho1.trans ho2 (fun x hx => .inr (own_ge hI1 x hx).1)
  have HW2 := hide hw2
  have CK := fun U (o : Only [] w2 U) => check_any (some ⟨g2, 0, none⟩) n c2 f U (hO.only0 o) hn
  have RC := fun U (o : Only [] w2 U) => rcheck_any A n c f U (hA.only0 (hw2.trans0 o)) hn
  have AT := hide (fun U (o : Only [] w2 U) => at_any (some ⟨g2, 0, none⟩) n c2 f pc U (hO.only0 o))
  have SM := hide (fun U (o : Only [] w2 U) => by have := rsame_any (some ⟨g2, 0, none⟩) n c2 f A n c f U (hO.only0 o) (hA.only0 (hw2.trans0 o)) hn; rw [sameB_self n f f (fun _ _ => rfl)] at this; exact this)
  have K7 := hide (fun U (o : Only [] w2 U) => o.keep0 h77)
  have HO := hide hO
  have HA := hide hA
  have j9 : n ≤ c2 := by omega
  have j8 : (n : Int) ≤ (c2 : Int) := by omega
  have j7 : (n : Int) < (n : Int) + 1 := by omega
  unfold maxLen at hn
  obtain ⟨x, hx⟩ := bad_chk hb
  rw [hx] at CK RC
  have CK := hide CK
  have RC := hide RC
  have LI := hide (fun U (o : Only [] w2 U) => list_bad (some ⟨g2, 0, none⟩) n c2 f U (HO.out.only0 o) (by unfold maxLen; omega) hb)
  have PU := hide (fun U (o : Only [] w2 U) => put_bad (some ⟨g2, 0, none⟩) n c2 f U (HO.out.only0 o) (by unfold maxLen; omega) hb)
  clear hx hb hI1 hI2 ho1 ho2 hw2 hO h77 hcap hA hi he hw4 h600
  have hai : atI n f pc = ⟨0, 0, 0, 0, 0⟩ := by unfold atI; rw [if_neg (by omega)]
  rw [hai] at AT
  have k2 : decide ((0 : Int) ≤ pc) = true := decide_eq_true (by omega)
  have k3 : decide (pc < (n : Int)) = false := decide_eq_false (by omega)
  clear hai hp hp2
  unfold insV at AT
  simp only at AT
  go_enter Tryz.func4, Tryz.ntmps4
  go_wp2_with (first
    | (go_at_call 7; (with_reducible refine (CK.out _ (Only.refl _ _)).mono ?_); rintro e w3 ⟨rfl, o'⟩; have Q3 := hide o'; clear o')
    | (go_at_call 6; (with_reducible refine (LI.out _ Q3.out).mono ?_); rintro e w4 ⟨rfl, o'⟩; have Q4 := hide (Q3.out.trans0 o'); clear o')
    | (go_at_call 14; (with_reducible refine (PU.out _ Q4.out).mono ?_); rintro e w5 ⟨rfl, o'⟩; have Q5 := hide (Q4.out.trans0 o'); clear o')
    | (go_at_call 15; (with_reducible refine (RC.out _ Q5.out).mono ?_); rintro e w6 ⟨rfl, o'⟩; have Q6 := hide (Q5.out.trans0 o'); clear o'))
  obtain ⟨X, hX⟩ : ∃ X, w6.heap.size = X := ⟨_, rfl⟩
  have nb := Blk.new w6 25 #[.int .i64 0, .int .i64 0, .int .i64 0, .int .i64 0, .int .i64 0]
  have QV := hide (Q6.out.alloc (.cells #[.int .i64 0, .int .i64 0, .int .i64 0, .int .i64 0, .int .i64 0] 25))
  obtain ⟨V, hV⟩ : ∃ V, w6.alloc (.cells #[.int .i64 0, .int .i64 0, .int .i64 0, .int .i64 0, .int .i64 0] 25) = V := ⟨_, rfl⟩
  rw [hV, hX] at nb
  rw [hV] at QV
  rw [hV]
  simp only [hX]
  have KX := hide (fun U1 (oo : Only [] V U1) => show U1.cell? ⟨X, 0, none⟩ = some (.int .i64 0) ∧ U1.cell? ⟨X, 1, none⟩ = some (.int .i64 0) ∧ U1.cell? ⟨X, 2, none⟩ = some (.int .i64 0) ∧ U1.cell? ⟨X, 3, none⟩ = some (.int .i64 0) ∧ U1.cell? ⟨X, 4, none⟩ = some (.int .i64 0) from by have := nb.only oo (by simp); exact ⟨this.cell 0, this.cell 1, this.cell 2, this.cell 3, this.cell 4⟩)
  have AT := hide (fun U1 (oo : Only [] V U1) => AT.out U1 (QV.out.trans0 oo))
  have SM := hide (fun U1 (oo : Only [] V U1) => SM.out U1 (QV.out.trans0 oo))
  have K7 := hide (fun U1 (oo : Only [] V U1) => K7.out U1 (QV.out.trans0 oo))
  clear hV hX nb
  refine wp_region_held_drew (S := (fun U1 => Only [] V U1)) (by kernel_rfl) ((Only.refl _ V).drew) (fun hHeld => ?_)
  revert hHeld
  generalize V.drew = u0
  intro hHeld
  refine wpAnyH_take (i := 0) (oi := ⟨some 71, _, _, _, _, _⟩) (v := ?vbc1) rfl (by kernel_rfl) (by kernel_rfl) (by kernel_rfl) (fun _ _ _ h => h) (Or.inl ⟨by rfl, ?hybc1⟩) (by assumption) ?restbc1
  case hybc1 => (intro V hSw; (try dsimp only at hSw); go_simp; first | done | (with_reducible rfl))
  try simp only [Act.put, List.setIfInBounds_toArray, List.set_cons_zero, List.set_cons_succ]
  refine wpAnyH_take (i := 1) (oi := ⟨some 72, _, _, _, _, _⟩) (v := ?vbc2) rfl (by kernel_rfl) (by kernel_rfl) (by kernel_rfl) (fun _ _ _ h => h) (Or.inl ⟨by rfl, ?hybc2⟩) (by assumption) ?restbc2
  case hybc2 => (intro V hSw; (try dsimp only at hSw); go_simp; first | done | (with_reducible rfl))
  try simp only [Act.put, List.setIfInBounds_toArray, List.set_cons_zero, List.set_cons_succ]
  refine wpAnyH_take (i := 2) (oi := ⟨some 73, _, _, _, _, _⟩) (v := ?vbc3) rfl (by kernel_rfl) (by kernel_rfl) (by kernel_rfl) (fun _ _ _ h => h) (Or.inl ⟨by rfl, ?hybc3⟩) (by assumption) ?restbc3
  case hybc3 => (intro V hSw; (try dsimp only at hSw); go_simp; first | done | (with_reducible rfl))
  try simp only [Act.put, List.setIfInBounds_toArray, List.set_cons_zero, List.set_cons_succ]
  refine wpAnyH_take (i := 3) (oi := ⟨some 74, _, _, _, _, _⟩) (v := ?vbc4) rfl (by kernel_rfl) (by kernel_rfl) (by kernel_rfl) (fun _ _ _ h => h) (Or.inl ⟨by rfl, ?hybc4⟩) (by assumption) ?restbc4
  case hybc4 => (intro V hSw; (try dsimp only at hSw); go_simp; first | done | (with_reducible rfl))
  try simp only [Act.put, List.setIfInBounds_toArray, List.set_cons_zero, List.set_cons_succ]
  refine wpAnyH_take (i := 4) (oi := ⟨some 75, _, _, _, _, _⟩) (v := ?vbc5) rfl (by kernel_rfl) (by kernel_rfl) (by kernel_rfl) (fun _ _ _ h => h) (Or.inl ⟨by rfl, ?hybc5⟩) (by assumption) ?restbc5
  case hybc5 => (intro V hSw; (try dsimp only at hSw); go_simp; first | done | (with_reducible rfl))
  try simp only [Act.put, List.setIfInBounds_toArray, List.set_cons_zero, List.set_cons_succ]
  refine wpAnyH_take (i := 6) (oi := ⟨some 77, _, _, _, _, _⟩) (v := ?vbc6) rfl (by kernel_rfl) (by kernel_rfl) (by kernel_rfl) (fun _ _ _ h => h) (Or.inl ⟨by rfl, ?hybc6⟩) (by assumption) ?restbc6
  case hybc6 => (intro V hSw; (try dsimp only at hSw); obtain ⟨y0, y1, y2, y3, y4⟩ := KX.out V hSw; go_simp; first | done | (with_reducible rfl))
  try simp only [Act.put, List.setIfInBounds_toArray, List.set_cons_zero, List.set_cons_succ]
  refine wpAnyH_ready (rs := [5]) (by kernel_rfl) (by simp) ?_
  refine AllReadyH.cons (o := ⟨some 76, _, _, _, _, _⟩) rfl (fun K hK => ?_) (AllReadyH.nil)
  rw [if_pos (by rfl)]
  go_simp
  (with_reducible refine (AT.out _ hHeld).mono ?_); rintro e u1 ⟨rfl, o'⟩; have OS := hide (show Only [] V u1 from (show Only [] V u0 from hHeld).trans0 o'); clear o'
  try dsimp only
  refine hK.out _ _ (OS.out) (fun hHeld => ?_)
  clear hK K
  try simp only [Act.put, List.setIfInBounds_toArray, List.set_cons_zero, List.set_cons_succ]
  refine wpAnyH_take (i := 7) (oi := ⟨some 78, _, _, _, _, _⟩) (v := ?vbc7) rfl (by kernel_rfl) (by kernel_rfl) (by kernel_rfl) (fun _ _ _ h => h) (Or.inl ⟨by rfl, ?hybc7⟩) (by assumption) ?restbc7
  case hybc7 => (intro V hSw; (try dsimp only at hSw); go_simp; first | done | (with_reducible rfl))
  try simp only [Act.put, List.setIfInBounds_toArray, List.set_cons_zero, List.set_cons_succ]
  refine wpAnyH_take (i := 8) (oi := ⟨some 79, _, _, _, _, _⟩) (v := ?vbc8) rfl (by kernel_rfl) (by kernel_rfl) (by kernel_rfl) (fun _ _ _ h => h) (Or.inl ⟨by rfl, ?hybc8⟩) (by assumption) ?restbc8
  case hybc8 => (intro V hSw; (try dsimp only at hSw); go_simp; first | done | (with_reducible rfl))
  try simp only [Act.put, List.setIfInBounds_toArray, List.set_cons_zero, List.set_cons_succ]
  refine wpAnyH_take (i := 9) (oi := ⟨some 80, _, _, _, _, _⟩) (v := ?vbc9) rfl (by kernel_rfl) (by kernel_rfl) (by kernel_rfl) (fun _ _ _ h => h) (Or.inl ⟨by rfl, ?hybc9⟩) (by assumption) ?restbc9
  case hybc9 => (intro V hSw; (try dsimp only at hSw); go_simp; first | done | (with_reducible rfl))
  try simp only [Act.put, List.setIfInBounds_toArray, List.set_cons_zero, List.set_cons_succ]
  refine wpAnyH_take (i := 10) (oi := ⟨some 81, _, _, _, _, _⟩) (v := ?vbc10) rfl (by kernel_rfl) (by kernel_rfl) (by kernel_rfl) (fun _ _ _ h => h) (Or.inl ⟨by rfl, ?hybc10⟩) (by assumption) ?restbc10
  case hybc10 => (intro V hSw; (try dsimp only at hSw); go_simp; first | done | (with_reducible rfl))
  try simp only [Act.put, List.setIfInBounds_toArray, List.set_cons_zero, List.set_cons_succ]
  refine wpAnyH_take (i := 11) (oi := ⟨some 82, _, _, _, _, _⟩) (v := ?vbc11) rfl (by kernel_rfl) (by kernel_rfl) (by kernel_rfl) (fun _ _ _ h => h) (Or.inl ⟨by rfl, ?hybc11⟩) (by assumption) ?restbc11
  case hybc11 => (intro V hSw; (try dsimp only at hSw); go_simp; first | done | (with_reducible rfl))
  try simp only [Act.put, List.setIfInBounds_toArray, List.set_cons_zero, List.set_cons_succ]
  refine wpAnyH_take (i := 12) (oi := ⟨some 83, _, _, _, _, _⟩) (v := ?vbc12) rfl (by kernel_rfl) (by kernel_rfl) (by kernel_rfl) (fun _ _ _ h => h) (Or.inl ⟨by rfl, ?hybc12⟩) (by assumption) ?restbc12
  case hybc12 => (intro V hSw; (try dsimp only at hSw); go_simp; first | done | (with_reducible rfl))
  try simp only [Act.put, List.setIfInBounds_toArray, List.set_cons_zero, List.set_cons_succ]
  refine wpAnyH_take (i := 13) (oi := ⟨some 84, _, _, _, _, _⟩) (v := ?vbc13) rfl (by kernel_rfl) (by kernel_rfl) (by kernel_rfl) (fun _ _ _ h => h) (Or.inl ⟨by rfl, ?hybc13⟩) (by assumption) ?restbc13
  case hybc13 => (intro V hSw; (try dsimp only at hSw); go_simp; first | done | (with_reducible rfl))
  try simp only [Act.put, List.setIfInBounds_toArray, List.set_cons_zero, List.set_cons_succ]
  refine wpAnyH_take (i := 14) (oi := ⟨some 85, _, _, _, _, _⟩) (v := ?vbc14) rfl (by kernel_rfl) (by kernel_rfl) (by kernel_rfl) (fun _ _ _ h => h) (Or.inl ⟨by rfl, ?hybc14⟩) (by assumption) ?restbc14
  case hybc14 => (intro V hSw; (try dsimp only at hSw); go_simp; first | done | (with_reducible rfl))
  try simp only [Act.put, List.setIfInBounds_toArray, List.set_cons_zero, List.set_cons_succ]
  refine wpAnyH_take (i := 16) (oi := ⟨some 87, _, _, _, _, _⟩) (v := ?vbc15) rfl (by kernel_rfl) (by kernel_rfl) (by kernel_rfl) (fun _ _ _ h => h) (Or.inl ⟨by rfl, ?hybc15⟩) (by assumption) ?restbc15
  case hybc15 => (intro V hSw; (try dsimp only at hSw); go_simp; first | done | (with_reducible rfl))
  try simp only [Act.put, List.setIfInBounds_toArray, List.set_cons_zero, List.set_cons_succ]
  refine wpAnyH_ready (rs := [15]) (by kernel_rfl) (by simp) ?_
  refine AllReadyH.cons (o := ⟨some 86, _, _, _, _, _⟩) rfl (fun K hK => ?_) (AllReadyH.nil)
  rw [if_pos (by rfl)]
  go_simp
  (with_reducible refine (num_any _ _).mono ?_); rintro e u2 ⟨rfl, hu⟩; have OS := hide (show Only [] V u2 from by rw [hu]; exact (show Only [] V u1 from hHeld)); clear hu
  try dsimp only
  refine hK.out _ _ (OS.out) (fun hHeld => ?_)
  clear hK K
  try simp only [Act.put, List.setIfInBounds_toArray, List.set_cons_zero, List.set_cons_succ]
  refine wpAnyH_take (i := 17) (oi := ⟨some 88, _, _, _, _, _⟩) (v := ?vbc16) rfl (by kernel_rfl) (by kernel_rfl) (by kernel_rfl) (fun _ _ _ h => h) (Or.inl ⟨by rfl, ?hybc16⟩) (by assumption) ?restbc16
  case hybc16 => (intro V hSw; (try dsimp only at hSw); go_simp; first | done | (with_reducible rfl))
  try simp only [Act.put, List.setIfInBounds_toArray, List.set_cons_zero, List.set_cons_succ]
  refine wpAnyH_take (i := 18) (oi := ⟨some 89, _, _, _, _, _⟩) (v := ?vbc17) rfl (by kernel_rfl) (by kernel_rfl) (by kernel_rfl) (fun _ _ _ h => h) (Or.inl ⟨by rfl, ?hybc17⟩) (by assumption) ?restbc17
  case hybc17 => (intro V hSw; (try dsimp only at hSw); go_simp; first | done | (with_reducible rfl))
  try simp only [Act.put, List.setIfInBounds_toArray, List.set_cons_zero, List.set_cons_succ]
  refine wpAnyH_take (i := 19) (oi := ⟨some 90, _, _, _, _, _⟩) (v := ?vbc18) rfl (by kernel_rfl) (by kernel_rfl) (by kernel_rfl) (fun _ _ _ h => h) (Or.inl ⟨by rfl, ?hybc18⟩) (by assumption) ?restbc18
  case hybc18 => (intro V hSw; (try dsimp only at hSw); go_simp; first | done | (with_reducible rfl))
  try simp only [Act.put, List.setIfInBounds_toArray, List.set_cons_zero, List.set_cons_succ]
  refine wpAnyH_take (i := 20) (oi := ⟨some 91, _, _, _, _, _⟩) (v := ?vbc19) rfl (by kernel_rfl) (by kernel_rfl) (by kernel_rfl) (fun _ _ _ h => h) (Or.inl ⟨by rfl, ?hybc19⟩) (by assumption) ?restbc19
  case hybc19 => (intro V hSw; (try dsimp only at hSw); go_simp; first | done | (with_reducible rfl))
  try simp only [Act.put, List.setIfInBounds_toArray, List.set_cons_zero, List.set_cons_succ]
  refine wpAnyH_take (i := 21) (oi := ⟨some 92, _, _, _, _, _⟩) (v := ?vbc20) rfl (by kernel_rfl) (by kernel_rfl) (by kernel_rfl) (fun _ _ _ h => h) (Or.inl ⟨by rfl, ?hybc20⟩) (by assumption) ?restbc20
  case hybc20 => (intro V hSw; (try dsimp only at hSw); go_simp; first | done | (with_reducible rfl))
  try simp only [Act.put, List.setIfInBounds_toArray, List.set_cons_zero, List.set_cons_succ]
  refine wpAnyH_take (i := 22) (oi := ⟨some 93, _, _, _, _, _⟩) (v := ?vbc21) rfl (by kernel_rfl) (by kernel_rfl) (by kernel_rfl) (fun _ _ _ h => h) (Or.inl ⟨by rfl, ?hybc21⟩) (by assumption) ?restbc21
  case hybc21 => (intro V hSw; (try dsimp only at hSw); go_simp; first | done | (with_reducible rfl))
  try simp only [Act.put, List.setIfInBounds_toArray, List.set_cons_zero, List.set_cons_succ]
  refine wpAnyH_take (i := 23) (oi := ⟨some 94, _, _, _, _, _⟩) (v := ?vbc22) rfl (by kernel_rfl) (by kernel_rfl) (by kernel_rfl) (fun _ _ _ h => h) (Or.inl ⟨by rfl, ?hybc22⟩) (by assumption) ?restbc22
  case hybc22 => (intro V hSw; (try dsimp only at hSw); go_simp; first | done | (with_reducible rfl))
  try simp only [Act.put, List.setIfInBounds_toArray, List.set_cons_zero, List.set_cons_succ]
  refine wpAnyH_take (i := 24) (oi := ⟨some 95, _, _, _, _, _⟩) (v := ?vbc23) rfl (by kernel_rfl) (by kernel_rfl) (by kernel_rfl) (fun _ _ _ h => h) (Or.inl ⟨by rfl, ?hybc23⟩) (by assumption) ?restbc23
  case hybc23 => (intro V hSw; (try dsimp only at hSw); go_simp; first | done | (with_reducible rfl))
  try simp only [Act.put, List.setIfInBounds_toArray, List.set_cons_zero, List.set_cons_succ]
  refine wpAnyH_ready (rs := [25]) (by kernel_rfl) (by simp) ?_
  refine AllReadyH.cons (o := ⟨some 96, _, _, _, _, _⟩) rfl (fun K hK => ?_) (AllReadyH.nil)
  rw [if_pos (by rfl)]
  go_simp
  (with_reducible refine (SM.out _ hHeld).mono ?_); rintro e u3 ⟨rfl, o'⟩; have OS := hide (show Only [] V u3 from (show Only [] V u2 from hHeld).trans0 o'); clear o'
  try dsimp only
  refine hK.out _ _ (OS.out) (fun hHeld => ?_)
  clear hK K
  try simp only [Act.put, List.setIfInBounds_toArray, List.set_cons_zero, List.set_cons_succ]
  refine wpAnyH_take (i := 26) (oi := ⟨some 97, _, _, _, _, _⟩) (v := ?vbc24) rfl (by kernel_rfl) (by kernel_rfl) (by kernel_rfl) (fun _ _ _ h => h) (Or.inl ⟨by rfl, ?hybc24⟩) (by assumption) ?restbc24
  case hybc24 => (intro V hSw; (try dsimp only at hSw); go_simp; first | done | (with_reducible rfl))
  try simp only [Act.put, List.setIfInBounds_toArray, List.set_cons_zero, List.set_cons_succ]
  refine wpAnyH_take (i := 27) (oi := ⟨some 98, _, _, _, _, _⟩) (v := ?vbc25) rfl (by kernel_rfl) (by kernel_rfl) (by kernel_rfl) (fun _ _ _ h => h) (Or.inl ⟨by rfl, ?hybc25⟩) (by assumption) ?restbc25
  case hybc25 => (intro V hSw; (try dsimp only at hSw); go_simp; first | done | (with_reducible rfl))
  try simp only [Act.put, List.setIfInBounds_toArray, List.set_cons_zero, List.set_cons_succ]
  refine wpAnyH_take (i := 28) (oi := ⟨some 99, _, _, _, _, _⟩) (v := ?vbc26) rfl (by kernel_rfl) (by kernel_rfl) (by kernel_rfl) (fun _ _ _ h => h) (Or.inl ⟨by rfl, ?hybc26⟩) (by assumption) ?restbc26
  case hybc26 => (intro V hSw; (try dsimp only at hSw); go_simp; first | done | (with_reducible rfl))
  try simp only [Act.put, List.setIfInBounds_toArray, List.set_cons_zero, List.set_cons_succ]
  refine wpAnyH_take (i := 29) (oi := ⟨some 100, _, _, _, _, _⟩) (v := ?vbc27) rfl (by kernel_rfl) (by kernel_rfl) (by kernel_rfl) (fun _ _ _ h => h) (Or.inl ⟨by rfl, ?hybc27⟩) (by assumption) ?restbc27
  case hybc27 => (intro V hSw; (try dsimp only at hSw); go_simp; first | done | (with_reducible rfl))
  try simp only [Act.put, List.setIfInBounds_toArray, List.set_cons_zero, List.set_cons_succ]
  refine wpAnyH_take (i := 30) (oi := ⟨some 101, _, _, _, _, _⟩) (v := ?vbc28) rfl (by kernel_rfl) (by kernel_rfl) (by kernel_rfl) (fun _ _ _ h => h) (Or.inl ⟨by rfl, ?hybc28⟩) (by assumption) ?restbc28
  case hybc28 => (intro V hSw; (try dsimp only at hSw); go_simp; first | done | (with_reducible rfl))
  try simp only [Act.put, List.setIfInBounds_toArray, List.set_cons_zero, List.set_cons_succ]
  refine wpAnyH_take (i := 31) (oi := ⟨some 102, _, _, _, _, _⟩) (v := ?vbc29) rfl (by kernel_rfl) (by kernel_rfl) (by kernel_rfl) (fun _ _ _ h => h) (Or.inl ⟨by rfl, ?hybc29⟩) (by assumption) ?restbc29
  case hybc29 => (intro V hSw; (try dsimp only at hSw); go_simp; first | done | (with_reducible rfl))
  try simp only [Act.put, List.setIfInBounds_toArray, List.set_cons_zero, List.set_cons_succ]
  refine wpAnyH_take (i := 32) (oi := ⟨some 103, _, _, _, _, _⟩) (v := ?vbc30) rfl (by kernel_rfl) (by kernel_rfl) (by kernel_rfl) (fun _ _ _ h => h) (Or.inl ⟨by rfl, ?hybc30⟩) (by assumption) ?restbc30
  case hybc30 => (intro V hSw; (try dsimp only at hSw); go_simp; first | done | (with_reducible rfl))
  try simp only [Act.put, List.setIfInBounds_toArray, List.set_cons_zero, List.set_cons_succ]
  refine wpAnyH_take (i := 33) (oi := ⟨some 104, _, _, _, _, _⟩) (v := ?vbc31) rfl (by kernel_rfl) (by kernel_rfl) (by kernel_rfl) (fun _ _ _ h => h) (Or.inl ⟨by rfl, ?hybc31⟩) (by assumption) ?restbc31
  case hybc31 => (intro V hSw; (try dsimp only at hSw); go_simp; first | done | (with_reducible rfl))
  try simp only [Act.put, List.setIfInBounds_toArray, List.set_cons_zero, List.set_cons_succ]
  refine wpAnyH_take (i := 34) (oi := ⟨some 105, _, _, _, _, _⟩) (v := ?vbc32) rfl (by kernel_rfl) (by kernel_rfl) (by kernel_rfl) (fun _ _ _ h => h) (Or.inl ⟨by rfl, ?hybc32⟩) (by assumption) ?restbc32
  case hybc32 => (intro V hSw; (try dsimp only at hSw); have y7 := K7.out V hSw; go_simp; first | done | (with_reducible rfl))
  try simp only [Act.put, List.setIfInBounds_toArray, List.set_cons_zero, List.set_cons_succ]
  refine wpAnyH_take (i := 35) (oi := ⟨some 106, _, _, _, _, _⟩) (v := ?vbc33) rfl (by kernel_rfl) (by kernel_rfl) (by kernel_rfl) (fun _ _ _ h => h) (Or.inl ⟨by rfl, ?hybc33⟩) (by assumption) ?restbc33
  case hybc33 => (intro V hSw; (try dsimp only at hSw); go_simp; first | done | (with_reducible rfl))
  try simp only [Act.put, List.setIfInBounds_toArray, List.set_cons_zero, List.set_cons_succ]
  refine wpAnyH_take (i := 36) (oi := ⟨some 107, _, _, _, _, _⟩) (v := ?vbc34) rfl (by kernel_rfl) (by kernel_rfl) (by kernel_rfl) (fun _ _ _ h => h) (Or.inl ⟨by rfl, ?hybc34⟩) (by assumption) ?restbc34
  case hybc34 => (intro V hSw; (try dsimp only at hSw); go_simp; first | done | (with_reducible rfl))
  try simp only [Act.put, List.setIfInBounds_toArray, List.set_cons_zero, List.set_cons_succ]
  refine wpAnyH_done (by kernel_rfl) ?_ _
  have OV := hide ((HW2.out.trans0 QV.out).trans0 OS.out)
  clear hHeld OS KX AT SM K7 QV
  go_wp2_with (first
    | (go_at_call 11; (with_reducible refine (num_any _ _).mono ?_); rintro e v1 ⟨rfl, rfl⟩)
    | (go_at_call 13; (with_reducible refine (KN.out _ OV.out).mono ?_); rintro e v9 ⟨rfl, o'⟩; have O9 := hide (OV.out.trans0 o'); clear o'))
  go_ret
  exact ⟨rfl, O9.out⟩
end Go.Proofs.YtmaljajdmgkakaaGreatDoor
