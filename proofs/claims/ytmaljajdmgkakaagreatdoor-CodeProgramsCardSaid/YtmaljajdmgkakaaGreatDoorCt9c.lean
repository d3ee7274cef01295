/- Code: the walk of CodePrograms. Condition: Env; the program's cells. -/
import Derived.Test.YtmaljajdmgkakaaGreatDoorCt9
import Derived.BigRegion
import Derived.Deep.RegionHeld3
namespace Go.Proofs.YtmaljajdmgkakaaGreatDoor
open Go.RowKit
set_option linter.unusedVariables false
set_option linter.all false
set_option maxRecDepth 20000
attribute [local go_sem ↓] app_hide

set_option maxHeartbeats 32000000 in
theorem prog_good2 (A : Option Addr) (n c : Nat) (f : Nat → Ins) (pc : Int) (w : World) (hA : InsAt w A n f) (hn : n ≤ maxLen) (hi : ∀ k, k < n → -9223372036854775808 ≤ (f k).imm ∧ (f k).imm ≤ 9223372036854775807) (he : Env w) (hw4 : 4 ≤ w.heap.size) (h600 : ¬ 600 < n) (hb : badP n f = false) (hp : ¬ (0 ≤ pc ∧ pc < n)) (hp2 : ¬ pc < 0) : Calls Tryz.prog 4 #[.slice A n c, .int .i64 pc] w fun e w' => e = .returned (.bool true) ∧ Only [] w w' := by
  have KN := hide (fun W (o : Only [] w W) => known_any W (he.only o) (by have := o.size; omega))
  have e0 : decide ((600 : Int) < (n : Int)) = false := decide_eq_false (by omega)
  have e1 : decide (600 < n) = false := decide_eq_false h600
  obtain ⟨A1, c1, w1, hrun1, hI1, ho1⟩ := app_prog A n c f w hA (by omega)
  obtain ⟨g2, c2, w2, hrun2, hI2, ho2⟩ := app_ins w1 w.heap.size A1 c1 (pOf n f) ⟨77, 0, 0, 0, 0⟩ hI1 (by rw [pOf_len]; omega) ho1.size
  rw [i77_def, pOf_len] at hrun2
  obtain ⟨hO, h77, hcap⟩ := own_facts hI2
  have hw2 : Only [] w w2 := ho1.trans ho2 (fun x hx => .inr (own_ge hI1 x hx).1)
  have HW2 := hide hw2
  have CK := fun U (o : Only [] w2 U) => check_any (some ⟨g2, 0, none⟩) n c2 f U (hO.only0 o) hn
  have RC := fun U (o : Only [] w2 U) => rcheck_any A n c f U (hA.only0 (hw2.trans0 o)) hn
  have AT := hide (fun U (o : Only [] w2 U) => at_any (some ⟨g2, 0, none⟩) n c2 f pc U (hO.only0 o))
  have SM := hide (fun U (o : Only [] w2 U) => by have := rsame_any (some ⟨g2, 0, none⟩) n c2 f A n c f U (hO.only0 o) (hA.only0 (hw2.trans0 o)) hn; rw [sameB_self n f f (fun _ _ => rfl)] at this; exact this)
  have K7 := hide (fun U (o : Only [] w2 U) => o.keep0 h77)
  have HO := hide hO
  have HA := hide hA
  have j9 : n ≤ c2 := by omega
  have j8 : (n : Int) ≤ (c2 : Int) := by omega
  have j7 : (n : Int) < (n : Int) + 1 := by omega
  unfold maxLen at hn
  have hg := good_of hb hi
  rw [hg.chk] at CK RC
  have CK := hide CK
  have RC := hide RC
  have EN := hide (fun U (o : Only [] w U) => he.only o)
  have LI := hide (fun U (o : Only [] w2 U) => list_good (some ⟨g2, 0, none⟩) n c2 f U (he.only (hw2.trans0 o)) (HO.out.only0 o) hg)
  have PU := hide (fun U (o : Only [] w2 U) => put_good (some ⟨g2, 0, none⟩) n c2 f U (HO.out.only0 o) hg)
  have RL := hide (fun U (o : Only [] w U) => rlist_good A n c f U (he.only o) (hA.only0 o) hg)
  have RP := hide (fun U (o : Only [] w U) => rput_good A n c f U (hA.only0 o) hg)
  have hll := txtL_len (pOf n f) hg.all
  rw [← listB_txt, pOf_len] at hll
  have RD := fun U (o : Only [] w U) => read_walk (listB f n) (by have := hg.len; omega) U (he.only o) (by have := o.size; omega)
  rw [readR_back hg] at RD
  have RD := hide RD
  have HF := hide (takeF_back hg)
  have hpl : (putB n f).length ≤ 100000 := by have h1 := numF_len10 n (by have := hg.len; omega); have h2 := bodyB_len hg n (Nat.le_refl _); have := hg.len; unfold putB; rw [List.length_append]; omega
  obtain ⟨tb, htb⟩ : ∃ x, bs (listB f n) = x := ⟨_, rfl⟩
  obtain ⟨pb, hpb⟩ : ∃ x, putB n f = x := ⟨_, rfl⟩
  rw [htb] at LI RL RD
  rw [hpb] at PU RP HF hpl
  have HPL := hide hpl
  clear hb hI1 hI2 ho1 ho2 hw2 hO h77 hcap hA hi he hw4 h600 hg hll htb hpb hpl
  have hai : atI n f pc = ⟨0, 0, 0, 0, 0⟩ := by unfold atI; rw [if_neg (by omega)]
  rw [hai] at AT
  have k2 : decide ((0 : Int) ≤ pc) = true := decide_eq_true (by omega)
  have k3 : decide (pc < (n : Int)) = false := decide_eq_false (by omega)
  clear hai hp hp2
  unfold insV at AT
  simp only at AT
  go_enter Tryz.func4, Tryz.ntmps4
  go_wp2_with (first
    | (go_at_call 7; (with_reducible refine (CK.out _ (Only.refl _ _)).mono ?_); rintro e w3 ⟨rfl, o'⟩; have Q3 := hide o'; clear o')
    | (go_at_call 6; (with_reducible refine (LI.out _ Q3.out).mono ?_); rintro e w4 ⟨rfl, o'⟩; have Q4 := hide (Q3.out.trans0 o'); clear o')
    | (go_at_call 14; (with_reducible refine (PU.out _ Q4.out).mono ?_); intro e w5 hp; obtain ⟨o', gb, cb, rfl, rb⟩ := hp; have RB := hide rb; have Q5 := hide (Q4.out.trans0 o'); clear o' rb)
    | (go_at_call 15; (with_reducible refine (RC.out _ Q5.out).mono ?_); rintro e w6 ⟨rfl, o'⟩; have Q6 := hide (Q5.out.trans0 o'); have RB := hide (own_only' RB.out o' (by simp)); clear o'))
  obtain ⟨X, hX⟩ : ∃ X, w6.heap.size = X := ⟨_, rfl⟩
  have nb := Blk.new w6 25 #[.int .i64 0, .int .i64 0, .int .i64 0, .int .i64 0, .int .i64 0]
  have QV := hide (Q6.out.alloc (.cells #[.int .i64 0, .int .i64 0, .int .i64 0, .int .i64 0, .int .i64 0] 25))
  have RB := hide (own_only' RB.out ((Only.refl [] w6).alloc (.cells #[.int .i64 0, .int .i64 0, .int .i64 0, .int .i64 0, .int .i64 0] 25)) (by simp))
  obtain ⟨V, hV⟩ : ∃ V, w6.alloc (.cells #[.int .i64 0, .int .i64 0, .int .i64 0, .int .i64 0, .int .i64 0] 25) = V := ⟨_, rfl⟩
  rw [hV, hX] at nb
  rw [hV] at QV RB
  rw [hV]
  simp only [hX]
  have KX := hide (fun U1 (oo : Only [] V U1) => show U1.cell? ⟨X, 0, none⟩ = some (.int .i64 0) ∧ U1.cell? ⟨X, 1, none⟩ = some (.int .i64 0) ∧ U1.cell? ⟨X, 2, none⟩ = some (.int .i64 0) ∧ U1.cell? ⟨X, 3, none⟩ = some (.int .i64 0) ∧ U1.cell? ⟨X, 4, none⟩ = some (.int .i64 0) from by have := nb.only oo (by simp); exact ⟨this.cell 0, this.cell 1, this.cell 2, this.cell 3, this.cell 4⟩)
  have AT := hide (fun U1 (oo : Only [] V U1) => AT.out U1 (QV.out.trans0 oo))
  have SM := hide (fun U1 (oo : Only [] V U1) => SM.out U1 (QV.out.trans0 oo))
  have K7 := hide (fun U1 (oo : Only [] V U1) => K7.out U1 (QV.out.trans0 oo))
  clear hV hX nb
  refine wp_region_held_drew (S := (fun U1 => Only [] V U1)) (by kernel_rfl) ((Only.refl _ V).drew) (fun hHeld => ?_)
  revert hHeld
  generalize V.drew = u0
  intro hHeld
  refine wpAnyH_take (i := 0) (oi := ⟨some 71, _, _, _, _, _⟩) (v := ?vgc1) rfl (by kernel_rfl) (by kernel_rfl) (by kernel_rfl) (fun _ _ _ h => h) (Or.inl ⟨by rfl, ?hygc1⟩) (by assumption) ?restgc1
  case hygc1 => (intro V hSw; (try dsimp only at hSw); go_simp; first | done | (with_reducible rfl))
  try simp only [Act.put, List.setIfInBounds_toArray, List.set_cons_zero, List.set_cons_succ]
  refine wpAnyH_take (i := 1) (oi := ⟨some 72, _, _, _, _, _⟩) (v := ?vgc2) rfl (by kernel_rfl) (by kernel_rfl) (by kernel_rfl) (fun _ _ _ h => h) (Or.inl ⟨by rfl, ?hygc2⟩) (by assumption) ?restgc2
  case hygc2 => (intro V hSw; (try dsimp only at hSw); go_simp; first | done | (with_reducible rfl))
  try simp only [Act.put, List.setIfInBounds_toArray, List.set_cons_zero, List.set_cons_succ]
  refine wpAnyH_take (i := 2) (oi := ⟨some 73, _, _, _, _, _⟩) (v := ?vgc3) rfl (by kernel_rfl) (by kernel_rfl) (by kernel_rfl) (fun _ _ _ h => h) (Or.inl ⟨by rfl, ?hygc3⟩) (by assumption) ?restgc3
  case hygc3 => (intro V hSw; (try dsimp only at hSw); go_simp; first | done | (with_reducible rfl))
  try simp only [Act.put, List.setIfInBounds_toArray, List.set_cons_zero, List.set_cons_succ]
  refine wpAnyH_take (i := 3) (oi := ⟨some 74, _, _, _, _, _⟩) (v := ?vgc4) rfl (by kernel_rfl) (by kernel_rfl) (by kernel_rfl) (fun _ _ _ h => h) (Or.inl ⟨by rfl, ?hygc4⟩) (by assumption) ?restgc4
  case hygc4 => (intro V hSw; (try dsimp only at hSw); go_simp; first | done | (with_reducible rfl))
  try simp only [Act.put, List.setIfInBounds_toArray, List.set_cons_zero, List.set_cons_succ]
  refine wpAnyH_take (i := 4) (oi := ⟨some 75, _, _, _, _, _⟩) (v := ?vgc5) rfl (by kernel_rfl) (by kernel_rfl) (by kernel_rfl) (fun _ _ _ h => h) (Or.inl ⟨by rfl, ?hygc5⟩) (by assumption) ?restgc5
  case hygc5 => (intro V hSw; (try dsimp only at hSw); go_simp; first | done | (with_reducible rfl))
  try simp only [Act.put, List.setIfInBounds_toArray, List.set_cons_zero, List.set_cons_succ]
  refine wpAnyH_take (i := 6) (oi := ⟨some 77, _, _, _, _, _⟩) (v := ?vgc6) rfl (by kernel_rfl) (by kernel_rfl) (by kernel_rfl) (fun _ _ _ h => h) (Or.inl ⟨by rfl, ?hygc6⟩) (by assumption) ?restgc6
  case hygc6 => (intro V hSw; (try dsimp only at hSw); obtain ⟨y0, y1, y2, y3, y4⟩ := KX.out V hSw; go_simp; first | done | (with_reducible rfl))
  try simp only [Act.put, List.setIfInBounds_toArray, List.set_cons_zero, List.set_cons_succ]
  refine wpAnyH_ready (rs := [5]) (by kernel_rfl) (by simp) ?_
  refine AllReadyH.cons (o := ⟨some 76, _, _, _, _, _⟩) rfl (fun K hK => ?_) (AllReadyH.nil)
  rw [if_pos (by rfl)]
  go_simp
  (with_reducible refine (AT.out _ hHeld).mono ?_); rintro e u1 ⟨rfl, o'⟩; have OS := hide (show Only [] V u1 from (show Only [] V u0 from hHeld).trans0 o'); clear o'
  try dsimp only
  refine hK.out _ _ (OS.out) (fun hHeld => ?_)
  clear hK K
  try simp only [Act.put, List.setIfInBounds_toArray, List.set_cons_zero, List.set_cons_succ]
  refine wpAnyH_take (i := 7) (oi := ⟨some 78, _, _, _, _, _⟩) (v := ?vgc7) rfl (by kernel_rfl) (by kernel_rfl) (by kernel_rfl) (fun _ _ _ h => h) (Or.inl ⟨by rfl, ?hygc7⟩) (by assumption) ?restgc7
  case hygc7 => (intro V hSw; (try dsimp only at hSw); go_simp; first | done | (with_reducible rfl))
  try simp only [Act.put, List.setIfInBounds_toArray, List.set_cons_zero, List.set_cons_succ]
  refine wpAnyH_take (i := 8) (oi := ⟨some 79, _, _, _, _, _⟩) (v := ?vgc8) rfl (by kernel_rfl) (by kernel_rfl) (by kernel_rfl) (fun _ _ _ h => h) (Or.inl ⟨by rfl, ?hygc8⟩) (by assumption) ?restgc8
  case hygc8 => (intro V hSw; (try dsimp only at hSw); go_simp; first | done | (with_reducible rfl))
  try simp only [Act.put, List.setIfInBounds_toArray, List.set_cons_zero, List.set_cons_succ]
  refine wpAnyH_take (i := 9) (oi := ⟨some 80, _, _, _, _, _⟩) (v := ?vgc9) rfl (by kernel_rfl) (by kernel_rfl) (by kernel_rfl) (fun _ _ _ h => h) (Or.inl ⟨by rfl, ?hygc9⟩) (by assumption) ?restgc9
  case hygc9 => (intro V hSw; (try dsimp only at hSw); go_simp; first | done | (with_reducible rfl))
  try simp only [Act.put, List.setIfInBounds_toArray, List.set_cons_zero, List.set_cons_succ]
  refine wpAnyH_take (i := 10) (oi := ⟨some 81, _, _, _, _, _⟩) (v := ?vgc10) rfl (by kernel_rfl) (by kernel_rfl) (by kernel_rfl) (fun _ _ _ h => h) (Or.inl ⟨by rfl, ?hygc10⟩) (by assumption) ?restgc10
  case hygc10 => (intro V hSw; (try dsimp only at hSw); go_simp; first | done | (with_reducible rfl))
  try simp only [Act.put, List.setIfInBounds_toArray, List.set_cons_zero, List.set_cons_succ]
  refine wpAnyH_take (i := 11) (oi := ⟨some 82, _, _, _, _, _⟩) (v := ?vgc11) rfl (by kernel_rfl) (by kernel_rfl) (by kernel_rfl) (fun _ _ _ h => h) (Or.inl ⟨by rfl, ?hygc11⟩) (by assumption) ?restgc11
  case hygc11 => (intro V hSw; (try dsimp only at hSw); go_simp; first | done | (with_reducible rfl))
  try simp only [Act.put, List.setIfInBounds_toArray, List.set_cons_zero, List.set_cons_succ]
  refine wpAnyH_take (i := 12) (oi := ⟨some 83, _, _, _, _, _⟩) (v := ?vgc12) rfl (by kernel_rfl) (by kernel_rfl) (by kernel_rfl) (fun _ _ _ h => h) (Or.inl ⟨by rfl, ?hygc12⟩) (by assumption) ?restgc12
  case hygc12 => (intro V hSw; (try dsimp only at hSw); go_simp; first | done | (with_reducible rfl))
  try simp only [Act.put, List.setIfInBounds_toArray, List.set_cons_zero, List.set_cons_succ]
  refine wpAnyH_take (i := 13) (oi := ⟨some 84, _, _, _, _, _⟩) (v := ?vgc13) rfl (by kernel_rfl) (by kernel_rfl) (by kernel_rfl) (fun _ _ _ h => h) (Or.inl ⟨by rfl, ?hygc13⟩) (by assumption) ?restgc13
  case hygc13 => (intro V hSw; (try dsimp only at hSw); go_simp; first | done | (with_reducible rfl))
  try simp only [Act.put, List.setIfInBounds_toArray, List.set_cons_zero, List.set_cons_succ]
  refine wpAnyH_take (i := 14) (oi := ⟨some 85, _, _, _, _, _⟩) (v := ?vgc14) rfl (by kernel_rfl) (by kernel_rfl) (by kernel_rfl) (fun _ _ _ h => h) (Or.inl ⟨by rfl, ?hygc14⟩) (by assumption) ?restgc14
  case hygc14 => (intro V hSw; (try dsimp only at hSw); go_simp; first | done | (with_reducible rfl))
  try simp only [Act.put, List.setIfInBounds_toArray, List.set_cons_zero, List.set_cons_succ]
  refine wpAnyH_take (i := 16) (oi := ⟨some 87, _, _, _, _, _⟩) (v := ?vgc15) rfl (by kernel_rfl) (by kernel_rfl) (by kernel_rfl) (fun _ _ _ h => h) (Or.inl ⟨by rfl, ?hygc15⟩) (by assumption) ?restgc15
  case hygc15 => (intro V hSw; (try dsimp only at hSw); go_simp; first | done | (with_reducible rfl))
  try simp only [Act.put, List.setIfInBounds_toArray, List.set_cons_zero, List.set_cons_succ]
  refine wpAnyH_ready (rs := [15]) (by kernel_rfl) (by simp) ?_
  refine AllReadyH.cons (o := ⟨some 86, _, _, _, _, _⟩) rfl (fun K hK => ?_) (AllReadyH.nil)
  rw [if_pos (by rfl)]
  go_simp
  (with_reducible refine (num_any _ _).mono ?_); rintro e u2 ⟨rfl, hu⟩; have OS := hide (show Only [] V u2 from by rw [hu]; exact (show Only [] V u1 from hHeld)); clear hu
  try dsimp only
  refine hK.out _ _ (OS.out) (fun hHeld => ?_)
  clear hK K
  try simp only [Act.put, List.setIfInBounds_toArray, List.set_cons_zero, List.set_cons_succ]
  refine wpAnyH_take (i := 17) (oi := ⟨some 88, _, _, _, _, _⟩) (v := ?vgc16) rfl (by kernel_rfl) (by kernel_rfl) (by kernel_rfl) (fun _ _ _ h => h) (Or.inl ⟨by rfl, ?hygc16⟩) (by assumption) ?restgc16
  case hygc16 => (intro V hSw; (try dsimp only at hSw); go_simp; first | done | (with_reducible rfl))
  try simp only [Act.put, List.setIfInBounds_toArray, List.set_cons_zero, List.set_cons_succ]
  refine wpAnyH_take (i := 18) (oi := ⟨some 89, _, _, _, _, _⟩) (v := ?vgc17) rfl (by kernel_rfl) (by kernel_rfl) (by kernel_rfl) (fun _ _ _ h => h) (Or.inl ⟨by rfl, ?hygc17⟩) (by assumption) ?restgc17
  case hygc17 => (intro V hSw; (try dsimp only at hSw); go_simp; first | done | (with_reducible rfl))
  try simp only [Act.put, List.setIfInBounds_toArray, List.set_cons_zero, List.set_cons_succ]
  refine wpAnyH_take (i := 19) (oi := ⟨some 90, _, _, _, _, _⟩) (v := ?vgc18) rfl (by kernel_rfl) (by kernel_rfl) (by kernel_rfl) (fun _ _ _ h => h) (Or.inl ⟨by rfl, ?hygc18⟩) (by assumption) ?restgc18
  case hygc18 => (intro V hSw; (try dsimp only at hSw); go_simp; first | done | (with_reducible rfl))
  try simp only [Act.put, List.setIfInBounds_toArray, List.set_cons_zero, List.set_cons_succ]
  refine wpAnyH_take (i := 20) (oi := ⟨some 91, _, _, _, _, _⟩) (v := ?vgc19) rfl (by kernel_rfl) (by kernel_rfl) (by kernel_rfl) (fun _ _ _ h => h) (Or.inl ⟨by rfl, ?hygc19⟩) (by assumption) ?restgc19
  case hygc19 => (intro V hSw; (try dsimp only at hSw); go_simp; first | done | (with_reducible rfl))
  try simp only [Act.put, List.setIfInBounds_toArray, List.set_cons_zero, List.set_cons_succ]
  refine wpAnyH_take (i := 21) (oi := ⟨some 92, _, _, _, _, _⟩) (v := ?vgc20) rfl (by kernel_rfl) (by kernel_rfl) (by kernel_rfl) (fun _ _ _ h => h) (Or.inl ⟨by rfl, ?hygc20⟩) (by assumption) ?restgc20
  case hygc20 => (intro V hSw; (try dsimp only at hSw); go_simp; first | done | (with_reducible rfl))
  try simp only [Act.put, List.setIfInBounds_toArray, List.set_cons_zero, List.set_cons_succ]
  refine wpAnyH_take (i := 22) (oi := ⟨some 93, _, _, _, _, _⟩) (v := ?vgc21) rfl (by kernel_rfl) (by kernel_rfl) (by kernel_rfl) (fun _ _ _ h => h) (Or.inl ⟨by rfl, ?hygc21⟩) (by assumption) ?restgc21
  case hygc21 => (intro V hSw; (try dsimp only at hSw); go_simp; first | done | (with_reducible rfl))
  try simp only [Act.put, List.setIfInBounds_toArray, List.set_cons_zero, List.set_cons_succ]
  refine wpAnyH_take (i := 23) (oi := ⟨some 94, _, _, _, _, _⟩) (v := ?vgc22) rfl (by kernel_rfl) (by kernel_rfl) (by kernel_rfl) (fun _ _ _ h => h) (Or.inl ⟨by rfl, ?hygc22⟩) (by assumption) ?restgc22
  case hygc22 => (intro V hSw; (try dsimp only at hSw); go_simp; first | done | (with_reducible rfl))
  try simp only [Act.put, List.setIfInBounds_toArray, List.set_cons_zero, List.set_cons_succ]
  refine wpAnyH_take (i := 24) (oi := ⟨some 95, _, _, _, _, _⟩) (v := ?vgc23) rfl (by kernel_rfl) (by kernel_rfl) (by kernel_rfl) (fun _ _ _ h => h) (Or.inl ⟨by rfl, ?hygc23⟩) (by assumption) ?restgc23
  case hygc23 => (intro V hSw; (try dsimp only at hSw); go_simp; first | done | (with_reducible rfl))
  try simp only [Act.put, List.setIfInBounds_toArray, List.set_cons_zero, List.set_cons_succ]
  refine wpAnyH_ready (rs := [25]) (by kernel_rfl) (by simp) ?_
  refine AllReadyH.cons (o := ⟨some 96, _, _, _, _, _⟩) rfl (fun K hK => ?_) (AllReadyH.nil)
  rw [if_pos (by rfl)]
  go_simp
  (with_reducible refine (SM.out _ hHeld).mono ?_); rintro e u3 ⟨rfl, o'⟩; have OS := hide (show Only [] V u3 from (show Only [] V u2 from hHeld).trans0 o'); clear o'
  try dsimp only
  refine hK.out _ _ (OS.out) (fun hHeld => ?_)
  clear hK K
  try simp only [Act.put, List.setIfInBounds_toArray, List.set_cons_zero, List.set_cons_succ]
  refine wpAnyH_take (i := 26) (oi := ⟨some 97, _, _, _, _, _⟩) (v := ?vgc24) rfl (by kernel_rfl) (by kernel_rfl) (by kernel_rfl) (fun _ _ _ h => h) (Or.inl ⟨by rfl, ?hygc24⟩) (by assumption) ?restgc24
  case hygc24 => (intro V hSw; (try dsimp only at hSw); go_simp; first | done | (with_reducible rfl))
  try simp only [Act.put, List.setIfInBounds_toArray, List.set_cons_zero, List.set_cons_succ]
  refine wpAnyH_take (i := 27) (oi := ⟨some 98, _, _, _, _, _⟩) (v := ?vgc25) rfl (by kernel_rfl) (by kernel_rfl) (by kernel_rfl) (fun _ _ _ h => h) (Or.inl ⟨by rfl, ?hygc25⟩) (by assumption) ?restgc25
  case hygc25 => (intro V hSw; (try dsimp only at hSw); go_simp; first | done | (with_reducible rfl))
  try simp only [Act.put, List.setIfInBounds_toArray, List.set_cons_zero, List.set_cons_succ]
  refine wpAnyH_take (i := 28) (oi := ⟨some 99, _, _, _, _, _⟩) (v := ?vgc26) rfl (by kernel_rfl) (by kernel_rfl) (by kernel_rfl) (fun _ _ _ h => h) (Or.inl ⟨by rfl, ?hygc26⟩) (by assumption) ?restgc26
  case hygc26 => (intro V hSw; (try dsimp only at hSw); go_simp; first | done | (with_reducible rfl))
  try simp only [Act.put, List.setIfInBounds_toArray, List.set_cons_zero, List.set_cons_succ]
  refine wpAnyH_take (i := 29) (oi := ⟨some 100, _, _, _, _, _⟩) (v := ?vgc27) rfl (by kernel_rfl) (by kernel_rfl) (by kernel_rfl) (fun _ _ _ h => h) (Or.inl ⟨by rfl, ?hygc27⟩) (by assumption) ?restgc27
  case hygc27 => (intro V hSw; (try dsimp only at hSw); go_simp; first | done | (with_reducible rfl))
  try simp only [Act.put, List.setIfInBounds_toArray, List.set_cons_zero, List.set_cons_succ]
  refine wpAnyH_take (i := 30) (oi := ⟨some 101, _, _, _, _, _⟩) (v := ?vgc28) rfl (by kernel_rfl) (by kernel_rfl) (by kernel_rfl) (fun _ _ _ h => h) (Or.inl ⟨by rfl, ?hygc28⟩) (by assumption) ?restgc28
  case hygc28 => (intro V hSw; (try dsimp only at hSw); go_simp; first | done | (with_reducible rfl))
  try simp only [Act.put, List.setIfInBounds_toArray, List.set_cons_zero, List.set_cons_succ]
  refine wpAnyH_take (i := 31) (oi := ⟨some 102, _, _, _, _, _⟩) (v := ?vgc29) rfl (by kernel_rfl) (by kernel_rfl) (by kernel_rfl) (fun _ _ _ h => h) (Or.inl ⟨by rfl, ?hygc29⟩) (by assumption) ?restgc29
  case hygc29 => (intro V hSw; (try dsimp only at hSw); go_simp; first | done | (with_reducible rfl))
  try simp only [Act.put, List.setIfInBounds_toArray, List.set_cons_zero, List.set_cons_succ]
  refine wpAnyH_take (i := 32) (oi := ⟨some 103, _, _, _, _, _⟩) (v := ?vgc30) rfl (by kernel_rfl) (by kernel_rfl) (by kernel_rfl) (fun _ _ _ h => h) (Or.inl ⟨by rfl, ?hygc30⟩) (by assumption) ?restgc30
  case hygc30 => (intro V hSw; (try dsimp only at hSw); go_simp; first | done | (with_reducible rfl))
  try simp only [Act.put, List.setIfInBounds_toArray, List.set_cons_zero, List.set_cons_succ]
  refine wpAnyH_take (i := 33) (oi := ⟨some 104, _, _, _, _, _⟩) (v := ?vgc31) rfl (by kernel_rfl) (by kernel_rfl) (by kernel_rfl) (fun _ _ _ h => h) (Or.inl ⟨by rfl, ?hygc31⟩) (by assumption) ?restgc31
  case hygc31 => (intro V hSw; (try dsimp only at hSw); go_simp; first | done | (with_reducible rfl))
  try simp only [Act.put, List.setIfInBounds_toArray, List.set_cons_zero, List.set_cons_succ]
  refine wpAnyH_take (i := 34) (oi := ⟨some 105, _, _, _, _, _⟩) (v := ?vgc32) rfl (by kernel_rfl) (by kernel_rfl) (by kernel_rfl) (fun _ _ _ h => h) (Or.inl ⟨by rfl, ?hygc32⟩) (by assumption) ?restgc32
  case hygc32 => (intro V hSw; (try dsimp only at hSw); have y7 := K7.out V hSw; go_simp; first | done | (with_reducible rfl))
  try simp only [Act.put, List.setIfInBounds_toArray, List.set_cons_zero, List.set_cons_succ]
  refine wpAnyH_take (i := 35) (oi := ⟨some 106, _, _, _, _, _⟩) (v := ?vgc33) rfl (by kernel_rfl) (by kernel_rfl) (by kernel_rfl) (fun _ _ _ h => h) (Or.inl ⟨by rfl, ?hygc33⟩) (by assumption) ?restgc33
  case hygc33 => (intro V hSw; (try dsimp only at hSw); go_simp; first | done | (with_reducible rfl))
  try simp only [Act.put, List.setIfInBounds_toArray, List.set_cons_zero, List.set_cons_succ]
  refine wpAnyH_take (i := 36) (oi := ⟨some 107, _, _, _, _, _⟩) (v := ?vgc34) rfl (by kernel_rfl) (by kernel_rfl) (by kernel_rfl) (fun _ _ _ h => h) (Or.inl ⟨by rfl, ?hygc34⟩) (by assumption) ?restgc34
  case hygc34 => (intro V hSw; (try dsimp only at hSw); go_simp; first | done | (with_reducible rfl))
  try simp only [Act.put, List.setIfInBounds_toArray, List.set_cons_zero, List.set_cons_succ]
  refine wpAnyH_done (by kernel_rfl) ?_ _
  have OV := hide ((HW2.out.trans0 QV.out).trans0 OS.out)
  have RB := hide (own_only' RB.out OS.out (by simp))
  clear hHeld OS KX AT SM K7 QV
  have TK := hide (fun U (o : Only [] _ U) => take_any _ _ cb pb U rfl (by have := HPL.out; omega) (Src.own (own_only' RB.out o (by simp))))
  rw [HF.out] at TK
  go_wp2_with (first
    | (go_at_call 8; (with_reducible refine (RD.out _ OV.out).mono ?_); rintro e v1 ⟨⟨B3, c3, p3, n3, er3, rfl, hq, i3⟩, o'⟩; simp only [Prod.mk.injEq] at hq; obtain ⟨rfl, rfl, rfl⟩ := hq; rw [pOf_len]; have Q1 := hide o'; have OV1 := hide (OV.out.trans0 o'); have I3 := hide i3; clear o' i3)
    | (go_at_call 9; (with_reducible refine (TK.out _ Q1.out).mono ?_); intro e v2 htk; obtain ⟨o', B4, c4, rfl, i4⟩ := htk; rw [pOf_len]; have OY := hide (OV1.out.trans0 o'); have I3 := hide (I3.out.only0 o'); have I4 := hide i4; have RBY := hide (own_only' (own_only' RB.out Q1.out (by simp)) o' (by simp)); clear o' i4))
  have SX := hide (fun U1 (oo : Only [] v2 U1) => by have := rsame_any B3 n c3 (fOf (pOf n f)) A n c f U1 (by have := is_at (I3.out.only0 oo); rw [pOf_len] at this; exact this) (HA.out.only0 (OY.out.trans0 oo)) (by unfold maxLen; omega); rw [sameB_self n _ f (fun k hk => fOf_pOf hk)] at this; exact this)
  have SY := hide (fun U1 (oo : Only [] v2 U1) => by have := rsame_any B4 n c4 (fOf (pOf n f)) A n c f U1 (by have := is_at (I4.out.only0 oo); rw [pOf_len] at this; exact this) (HA.out.only0 (OY.out.trans0 oo)) (by unfold maxLen; omega); rw [sameB_self n _ f (fun k hk => fOf_pOf hk)] at this; exact this)
  have KB := hide (fun U1 (oo : Only [] v2 U1) => run_str_any _ _ cb pb U1 rfl (Src.own (own_only' RBY.out oo (by simp))))
  obtain ⟨sb, hsb⟩ : ∃ s, (⟨pb.toArray⟩ : ByteArray) = s := ⟨_, rfl⟩
  rw [hsb] at KB
  have HSB := hide hsb
  clear hsb
  obtain ⟨Y, hY⟩ : ∃ Y, v2 = Y := ⟨_, rfl⟩
  rw [hY] at SX SY KB OY ⊢
  have RL := hide (fun U1 (oo : Only [] Y U1) => RL.out U1 (OY.out.trans0 oo))
  have RP := hide (fun U1 (oo : Only [] Y U1) => RP.out U1 (OY.out.trans0 oo))
  clear hY I3 I4 RBY
  have wz0 : IntKind.i64.wrap 0 = 0 := by decide
  have wz1 : IntKind.i64.wrap (0 + 0) = 0 := by decide
  refine wp_region_held_drew (S := (fun U1 => Only [] Y U1)) (by kernel_rfl) ((Only.refl _ Y).drew) (fun hHeld => ?_)
  revert hHeld
  generalize Y.drew = u0
  intro hHeld
  refine wpAnyH_take (i := 0) (oi := ⟨some 141, _, _, _, _, _⟩) (v := ?vgcq1) rfl (by kernel_rfl) (by kernel_rfl) (by kernel_rfl) (fun _ _ _ h => h) (Or.inl ⟨by rfl, ?hygcq1⟩) (by assumption) ?restgcq1
  case hygcq1 => (intro V hSw; (try dsimp only at hSw); go_simp; first | done | (with_reducible rfl))
  try simp only [Act.put, List.setIfInBounds_toArray, List.set_cons_zero, List.set_cons_succ]
  refine wpAnyH_take (i := 1) (oi := ⟨some 142, _, _, _, _, _⟩) (v := ?vgcq2) rfl (by kernel_rfl) (by kernel_rfl) (by kernel_rfl) (fun _ _ _ h => h) (Or.inl ⟨by rfl, ?hygcq2⟩) (by assumption) ?restgcq2
  case hygcq2 => (intro V hSw; (try dsimp only at hSw); go_simp; first | done | (with_reducible rfl))
  try simp only [Act.put, List.setIfInBounds_toArray, List.set_cons_zero, List.set_cons_succ]
  refine wpAnyH_ready (rs := [2]) (by kernel_rfl) (by simp) ?_
  refine AllReadyH.cons (o := ⟨some 143, _, _, _, _, _⟩) rfl (fun K hK => ?_) (AllReadyH.nil)
  rw [if_pos (by rfl)]
  go_simp
  (with_reducible refine (RL.out _ hHeld).mono ?_); rintro e u1 ⟨rfl, o'⟩; have OS := hide (show Only [] Y u1 from (show Only [] Y u0 from hHeld).trans0 o'); clear o'
  try dsimp only
  refine hK.out _ _ (OS.out) (fun hHeld => ?_)
  clear hK K
  try simp only [Act.put, List.setIfInBounds_toArray, List.set_cons_zero, List.set_cons_succ]
  refine wpAnyH_take (i := 3) (oi := ⟨some 144, _, _, _, _, _⟩) (v := ?vgcq3) rfl (by kernel_rfl) (by kernel_rfl) (by kernel_rfl) (fun _ _ _ h => h) (Or.inl ⟨by rfl, ?hygcq3⟩) (by assumption) ?restgcq3
  case hygcq3 => (intro V hSw; (try dsimp only at hSw); go_simp; first | done | (with_reducible rfl))
  try simp only [Act.put, List.setIfInBounds_toArray, List.set_cons_zero, List.set_cons_succ]
  refine wpAnyH_take (i := 4) (oi := ⟨some 145, _, _, _, _, _⟩) (v := ?vgcq4) rfl (by kernel_rfl) (by kernel_rfl) (by kernel_rfl) (fun _ _ _ h => h) (Or.inl ⟨by rfl, ?hygcq4⟩) (by assumption) ?restgcq4
  case hygcq4 => (intro V hSw; (try dsimp only at hSw); go_simp; first | done | (with_reducible rfl))
  try simp only [Act.put, List.setIfInBounds_toArray, List.set_cons_zero, List.set_cons_succ]
  refine wpAnyH_take (i := 5) (oi := ⟨some 146, _, _, _, _, _⟩) (v := ?vgcq5) rfl (by kernel_rfl) (by kernel_rfl) (by kernel_rfl) (fun _ _ _ h => h) (Or.inl ⟨by rfl, ?hygcq5⟩) (by assumption) ?restgcq5
  case hygcq5 => (intro V hSw; (try dsimp only at hSw); go_simp; first | done | (with_reducible rfl))
  try simp only [Act.put, List.setIfInBounds_toArray, List.set_cons_zero, List.set_cons_succ]
  refine wpAnyH_take (i := 6) (oi := ⟨some 147, _, _, _, _, _⟩) (v := ?vgcq6) rfl (by kernel_rfl) (by kernel_rfl) (by kernel_rfl) (fun _ _ _ h => h) (Or.inl ⟨by rfl, ?hygcq6⟩) (by assumption) ?restgcq6
  case hygcq6 => (intro V hSw; (try dsimp only at hSw); have zb := KB.out V hSw; go_simp; first | done | (with_reducible rfl))
  try simp only [Act.put, List.setIfInBounds_toArray, List.set_cons_zero, List.set_cons_succ]
  refine wpAnyH_take (i := 7) (oi := ⟨some 148, _, _, _, _, _⟩) (v := ?vgcq7) rfl (by kernel_rfl) (by kernel_rfl) (by kernel_rfl) (fun _ _ _ h => h) (Or.inl ⟨by rfl, ?hygcq7⟩) (by assumption) ?restgcq7
  case hygcq7 => (intro V hSw; (try dsimp only at hSw); go_simp; first | done | (with_reducible rfl))
  try simp only [Act.put, List.setIfInBounds_toArray, List.set_cons_zero, List.set_cons_succ]
  refine wpAnyH_ready (rs := [8]) (by kernel_rfl) (by simp) ?_
  refine AllReadyH.cons (o := ⟨some 149, _, _, _, _, _⟩) rfl (fun K hK => ?_) (AllReadyH.nil)
  rw [if_pos (by rfl)]
  go_simp
  (with_reducible refine (RP.out _ hHeld).mono ?_); intro e u2 hfr; obtain ⟨o', g9, c9, rfl, r9⟩ := hfr; have ZC := run_str_any _ _ c9 _ u2 rfl (Src.own r9); rw [HSB.out] at ZC; have ZC := hide ZC; have OS := hide (show Only [] Y u2 from (show Only [] Y u1 from hHeld).trans0 o'); clear o' r9
  try dsimp only
  refine hK.out _ _ (OS.out) (fun hHeld => ?_)
  clear hK K
  try simp only [Act.put, List.setIfInBounds_toArray, List.set_cons_zero, List.set_cons_succ]
  refine wpAnyH_ready (rs := [9]) (by kernel_rfl) (by simp) ?_
  refine AllReadyH.cons (o := ⟨some 150, _, _, _, _, _⟩) rfl (fun K hK => ?_) (AllReadyH.nil)
  rw [if_pos (by rfl)]
  have zc := ZC.out
  go_simp
  try dsimp only
  refine hK.out _ _ ((show Only [] Y u2 from hHeld)) (fun hHeld => ?_)
  clear hK K
  try simp only [Act.put, List.setIfInBounds_toArray, List.set_cons_zero, List.set_cons_succ]
  refine wpAnyH_take (i := 10) (oi := ⟨some 151, _, _, _, _, _⟩) (v := ?vgcq8) rfl (by kernel_rfl) (by kernel_rfl) (by kernel_rfl) (fun _ _ _ h => h) (Or.inl ⟨by rfl, ?hygcq8⟩) (by assumption) ?restgcq8
  case hygcq8 => (intro V hSw; (try dsimp only at hSw); go_simp; first | done | (with_reducible rfl))
  try simp only [Act.put, List.setIfInBounds_toArray, List.set_cons_zero, List.set_cons_succ]
  refine wpAnyH_take (i := 11) (oi := ⟨some 152, _, _, _, _, _⟩) (v := ?vgcq9) rfl (by kernel_rfl) (by kernel_rfl) (by kernel_rfl) (fun _ _ _ h => h) (Or.inl ⟨by rfl, ?hygcq9⟩) (by assumption) ?restgcq9
  case hygcq9 => (intro V hSw; (try dsimp only at hSw); go_simp; first | done | (with_reducible rfl))
  try simp only [Act.put, List.setIfInBounds_toArray, List.set_cons_zero, List.set_cons_succ]
  refine wpAnyH_take (i := 12) (oi := ⟨some 153, _, _, _, _, _⟩) (v := ?vgcq10) rfl (by kernel_rfl) (by kernel_rfl) (by kernel_rfl) (fun _ _ _ h => h) (Or.inl ⟨by rfl, ?hygcq10⟩) (by assumption) ?restgcq10
  case hygcq10 => (intro V hSw; (try dsimp only at hSw); go_simp; first | done | (with_reducible rfl))
  try simp only [Act.put, List.setIfInBounds_toArray, List.set_cons_zero, List.set_cons_succ]
  refine wpAnyH_take (i := 13) (oi := ⟨some 154, _, _, _, _, _⟩) (v := ?vgcq11) rfl (by kernel_rfl) (by kernel_rfl) (by kernel_rfl) (fun _ _ _ h => h) (Or.inl ⟨by rfl, ?hygcq11⟩) (by assumption) ?restgcq11
  case hygcq11 => (intro V hSw; (try dsimp only at hSw); go_simp; first | done | (with_reducible rfl))
  try simp only [Act.put, List.setIfInBounds_toArray, List.set_cons_zero, List.set_cons_succ]
  refine wpAnyH_take (i := 15) (oi := ⟨some 156, _, _, _, _, _⟩) (v := ?vgcq12) rfl (by kernel_rfl) (by kernel_rfl) (by kernel_rfl) (fun _ _ _ h => h) (Or.inl ⟨by rfl, ?hygcq12⟩) (by assumption) ?restgcq12
  case hygcq12 => (intro V hSw; (try dsimp only at hSw); go_simp; first | done | (with_reducible rfl))
  try simp only [Act.put, List.setIfInBounds_toArray, List.set_cons_zero, List.set_cons_succ]
  refine wpAnyH_take (i := 18) (oi := ⟨some 159, _, _, _, _, _⟩) (v := ?vgcq13) rfl (by kernel_rfl) (by kernel_rfl) (by kernel_rfl) (fun _ _ _ h => h) (Or.inl ⟨by rfl, ?hygcq13⟩) (by assumption) ?restgcq13
  case hygcq13 => (intro V hSw; (try dsimp only at hSw); go_simp; first | done | (with_reducible rfl))
  try simp only [Act.put, List.setIfInBounds_toArray, List.set_cons_zero, List.set_cons_succ]
  refine wpAnyH_take (i := 21) (oi := ⟨some 162, _, _, _, _, _⟩) (v := ?vgcq14) rfl (by kernel_rfl) (by kernel_rfl) (by kernel_rfl) (fun _ _ _ h => h) (Or.inl ⟨by rfl, ?hygcq14⟩) (by assumption) ?restgcq14
  case hygcq14 => (intro V hSw; (try dsimp only at hSw); go_simp; first | done | (with_reducible rfl))
  try simp only [Act.put, List.setIfInBounds_toArray, List.set_cons_zero, List.set_cons_succ]
  refine wpAnyH_take (i := 24) (oi := ⟨some 165, _, _, _, _, _⟩) (v := ?vgcq15) rfl (by kernel_rfl) (by kernel_rfl) (by kernel_rfl) (fun _ _ _ h => h) (Or.inl ⟨by rfl, ?hygcq15⟩) (by assumption) ?restgcq15
  case hygcq15 => (intro V hSw; (try dsimp only at hSw); go_simp; first | done | (with_reducible rfl))
  try simp only [Act.put, List.setIfInBounds_toArray, List.set_cons_zero, List.set_cons_succ]
  refine wpAnyH_ready (rs := [14]) (by kernel_rfl) (by simp) ?_
  refine AllReadyH.cons (o := ⟨some 155, _, _, _, _, _⟩) rfl (fun K hK => ?_) (AllReadyH.nil)
  rw [if_pos (by rfl)]
  go_simp
  (with_reducible refine (num_any _ _).mono ?_); rintro e u3 ⟨rfl, hu⟩; have OS := hide (show Only [] Y u3 from by rw [hu]; exact (show Only [] Y u2 from hHeld)); clear hu
  try dsimp only
  refine hK.out _ _ (OS.out) (fun hHeld => ?_)
  clear hK K
  try simp only [Act.put, List.setIfInBounds_toArray, List.set_cons_zero, List.set_cons_succ]
  refine wpAnyH_ready (rs := [16]) (by kernel_rfl) (by simp) ?_
  refine AllReadyH.cons (o := ⟨some 157, _, _, _, _, _⟩) rfl (fun K hK => ?_) (AllReadyH.nil)
  rw [if_pos (by rfl)]
  go_simp
  (with_reducible refine (num_any _ _).mono ?_); rintro e u4 ⟨rfl, hu⟩; have OS := hide (show Only [] Y u4 from by rw [hu]; exact (show Only [] Y u3 from hHeld)); clear hu
  try dsimp only
  refine hK.out _ _ (OS.out) (fun hHeld => ?_)
  clear hK K
  try simp only [Act.put, List.setIfInBounds_toArray, List.set_cons_zero, List.set_cons_succ]
  refine wpAnyH_take (i := 17) (oi := ⟨some 158, _, _, _, _, _⟩) (v := ?vgcq16) rfl (by kernel_rfl) (by kernel_rfl) (by kernel_rfl) (fun _ _ _ h => h) (Or.inl ⟨by rfl, ?hygcq16⟩) (by assumption) ?restgcq16
  case hygcq16 => (intro V hSw; (try dsimp only at hSw); go_simp; first | done | (with_reducible rfl))
  try simp only [Act.put, List.setIfInBounds_toArray, List.set_cons_zero, List.set_cons_succ]
  refine wpAnyH_ready (rs := [19]) (by kernel_rfl) (by simp) ?_
  refine AllReadyH.cons (o := ⟨some 160, _, _, _, _, _⟩) rfl (fun K hK => ?_) (AllReadyH.nil)
  rw [if_pos (by rfl)]
  go_simp
  (with_reducible refine (num_any _ _).mono ?_); rintro e u5 ⟨rfl, hu⟩; have OS := hide (show Only [] Y u5 from by rw [hu]; exact (show Only [] Y u4 from hHeld)); clear hu
  try dsimp only
  refine hK.out _ _ (OS.out) (fun hHeld => ?_)
  clear hK K
  try simp only [Act.put, List.setIfInBounds_toArray, List.set_cons_zero, List.set_cons_succ]
  refine wpAnyH_take (i := 20) (oi := ⟨some 161, _, _, _, _, _⟩) (v := ?vgcq17) rfl (by kernel_rfl) (by kernel_rfl) (by kernel_rfl) (fun _ _ _ h => h) (Or.inl ⟨by rfl, ?hygcq17⟩) (by assumption) ?restgcq17
  case hygcq17 => (intro V hSw; (try dsimp only at hSw); go_simp; first | done | (with_reducible rfl))
  try simp only [Act.put, List.setIfInBounds_toArray, List.set_cons_zero, List.set_cons_succ]
  refine wpAnyH_ready (rs := [22]) (by kernel_rfl) (by simp) ?_
  refine AllReadyH.cons (o := ⟨some 163, _, _, _, _, _⟩) rfl (fun K hK => ?_) (AllReadyH.nil)
  rw [if_pos (by rfl)]
  go_simp
  (with_reducible refine (num_any _ _).mono ?_); rintro e u6 ⟨rfl, hu⟩; have OS := hide (show Only [] Y u6 from by rw [hu]; exact (show Only [] Y u5 from hHeld)); clear hu
  try dsimp only
  refine hK.out _ _ (OS.out) (fun hHeld => ?_)
  clear hK K
  try simp only [Act.put, List.setIfInBounds_toArray, List.set_cons_zero, List.set_cons_succ]
  refine wpAnyH_take (i := 23) (oi := ⟨some 164, _, _, _, _, _⟩) (v := ?vgcq18) rfl (by kernel_rfl) (by kernel_rfl) (by kernel_rfl) (fun _ _ _ h => h) (Or.inl ⟨by rfl, ?hygcq18⟩) (by assumption) ?restgcq18
  case hygcq18 => (intro V hSw; (try dsimp only at hSw); go_simp; first | done | (with_reducible rfl))
  try simp only [Act.put, List.setIfInBounds_toArray, List.set_cons_zero, List.set_cons_succ]
  refine wpAnyH_take (i := 25) (oi := ⟨some 166, _, _, _, _, _⟩) (v := ?vgcq19) rfl (by kernel_rfl) (by kernel_rfl) (by kernel_rfl) (fun _ _ _ h => h) (Or.inl ⟨by rfl, ?hygcq19⟩) (by assumption) ?restgcq19
  case hygcq19 => (intro V hSw; (try dsimp only at hSw); go_simp; first | done | (with_reducible rfl))
  try simp only [Act.put, List.setIfInBounds_toArray, List.set_cons_zero, List.set_cons_succ]
  refine wpAnyH_take (i := 26) (oi := ⟨some 167, _, _, _, _, _⟩) (v := ?vgcq20) rfl (by kernel_rfl) (by kernel_rfl) (by kernel_rfl) (fun _ _ _ h => h) (Or.inl ⟨by rfl, ?hygcq20⟩) (by assumption) ?restgcq20
  case hygcq20 => (intro V hSw; (try dsimp only at hSw); go_simp; first | done | (with_reducible rfl))
  try simp only [Act.put, List.setIfInBounds_toArray, List.set_cons_zero, List.set_cons_succ]
  refine wpAnyH_take (i := 27) (oi := ⟨some 168, _, _, _, _, _⟩) (v := ?vgcq21) rfl (by kernel_rfl) (by kernel_rfl) (by kernel_rfl) (fun _ _ _ h => h) (Or.inl ⟨by rfl, ?hygcq21⟩) (by assumption) ?restgcq21
  case hygcq21 => (intro V hSw; (try dsimp only at hSw); go_simp; first | done | (with_reducible rfl))
  try simp only [Act.put, List.setIfInBounds_toArray, List.set_cons_zero, List.set_cons_succ]
  refine wpAnyH_take (i := 28) (oi := ⟨some 169, _, _, _, _, _⟩) (v := ?vgcq22) rfl (by kernel_rfl) (by kernel_rfl) (by kernel_rfl) (fun _ _ _ h => h) (Or.inl ⟨by rfl, ?hygcq22⟩) (by assumption) ?restgcq22
  case hygcq22 => (intro V hSw; (try dsimp only at hSw); go_simp; first | done | (with_reducible rfl))
  try simp only [Act.put, List.setIfInBounds_toArray, List.set_cons_zero, List.set_cons_succ]
  refine wpAnyH_take (i := 29) (oi := ⟨some 170, _, _, _, _, _⟩) (v := ?vgcq23) rfl (by kernel_rfl) (by kernel_rfl) (by kernel_rfl) (fun _ _ _ h => h) (Or.inl ⟨by rfl, ?hygcq23⟩) (by assumption) ?restgcq23
  case hygcq23 => (intro V hSw; (try dsimp only at hSw); go_simp; first | done | (with_reducible rfl))
  try simp only [Act.put, List.setIfInBounds_toArray, List.set_cons_zero, List.set_cons_succ]
  refine wpAnyH_take (i := 30) (oi := ⟨some 171, _, _, _, _, _⟩) (v := ?vgcq24) rfl (by kernel_rfl) (by kernel_rfl) (by kernel_rfl) (fun _ _ _ h => h) (Or.inl ⟨by rfl, ?hygcq24⟩) (by assumption) ?restgcq24
  case hygcq24 => (intro V hSw; (try dsimp only at hSw); go_simp; first | done | (with_reducible rfl))
  try simp only [Act.put, List.setIfInBounds_toArray, List.set_cons_zero, List.set_cons_succ]
  refine wpAnyH_ready (rs := [31]) (by kernel_rfl) (by simp) ?_
  refine AllReadyH.cons (o := ⟨some 172, _, _, _, _, _⟩) rfl (fun K hK => ?_) (AllReadyH.nil)
  rw [if_pos (by rfl)]
  go_simp
  (with_reducible refine (SX.out _ hHeld).mono ?_); rintro e u7 ⟨rfl, o'⟩; have OS := hide (show Only [] Y u7 from (show Only [] Y u6 from hHeld).trans0 o'); clear o'
  try dsimp only
  refine hK.out _ _ (OS.out) (fun hHeld => ?_)
  clear hK K
  try simp only [Act.put, List.setIfInBounds_toArray, List.set_cons_zero, List.set_cons_succ]
  refine wpAnyH_take (i := 32) (oi := ⟨some 173, _, _, _, _, _⟩) (v := ?vgcq25) rfl (by kernel_rfl) (by kernel_rfl) (by kernel_rfl) (fun _ _ _ h => h) (Or.inl ⟨by rfl, ?hygcq25⟩) (by assumption) ?restgcq25
  case hygcq25 => (intro V hSw; (try dsimp only at hSw); go_simp; first | done | (with_reducible rfl))
  try simp only [Act.put, List.setIfInBounds_toArray, List.set_cons_zero, List.set_cons_succ]
  refine wpAnyH_take (i := 33) (oi := ⟨some 174, _, _, _, _, _⟩) (v := ?vgcq26) rfl (by kernel_rfl) (by kernel_rfl) (by kernel_rfl) (fun _ _ _ h => h) (Or.inl ⟨by rfl, ?hygcq26⟩) (by assumption) ?restgcq26
  case hygcq26 => (intro V hSw; (try dsimp only at hSw); go_simp; first | done | (with_reducible rfl))
  try simp only [Act.put, List.setIfInBounds_toArray, List.set_cons_zero, List.set_cons_succ]
  refine wpAnyH_take (i := 34) (oi := ⟨some 175, _, _, _, _, _⟩) (v := ?vgcq27) rfl (by kernel_rfl) (by kernel_rfl) (by kernel_rfl) (fun _ _ _ h => h) (Or.inl ⟨by rfl, ?hygcq27⟩) (by assumption) ?restgcq27
  case hygcq27 => (intro V hSw; (try dsimp only at hSw); go_simp; first | done | (with_reducible rfl))
  try simp only [Act.put, List.setIfInBounds_toArray, List.set_cons_zero, List.set_cons_succ]
  refine wpAnyH_take (i := 35) (oi := ⟨some 176, _, _, _, _, _⟩) (v := ?vgcq28) rfl (by kernel_rfl) (by kernel_rfl) (by kernel_rfl) (fun _ _ _ h => h) (Or.inl ⟨by rfl, ?hygcq28⟩) (by assumption) ?restgcq28
  case hygcq28 => (intro V hSw; (try dsimp only at hSw); go_simp; first | done | (with_reducible rfl))
  try simp only [Act.put, List.setIfInBounds_toArray, List.set_cons_zero, List.set_cons_succ]
  refine wpAnyH_ready (rs := [36]) (by kernel_rfl) (by simp) ?_
  refine AllReadyH.cons (o := ⟨some 177, _, _, _, _, _⟩) rfl (fun K hK => ?_) (AllReadyH.nil)
  rw [if_pos (by rfl)]
  go_simp
  (with_reducible refine (SY.out _ hHeld).mono ?_); rintro e u8 ⟨rfl, o'⟩; have OS := hide (show Only [] Y u8 from (show Only [] Y u7 from hHeld).trans0 o'); clear o'
  try dsimp only
  refine hK.out _ _ (OS.out) (fun hHeld => ?_)
  clear hK K
  try simp only [Act.put, List.setIfInBounds_toArray, List.set_cons_zero, List.set_cons_succ]
  refine wpAnyH_take (i := 37) (oi := ⟨some 178, _, _, _, _, _⟩) (v := ?vgcq29) rfl (by kernel_rfl) (by kernel_rfl) (by kernel_rfl) (fun _ _ _ h => h) (Or.inl ⟨by rfl, ?hygcq29⟩) (by assumption) ?restgcq29
  case hygcq29 => (intro V hSw; (try dsimp only at hSw); go_simp; first | done | (with_reducible rfl))
  try simp only [Act.put, List.setIfInBounds_toArray, List.set_cons_zero, List.set_cons_succ]
  refine wpAnyH_take (i := 38) (oi := ⟨some 179, _, _, _, _, _⟩) (v := ?vgcq30) rfl (by kernel_rfl) (by kernel_rfl) (by kernel_rfl) (fun _ _ _ h => h) (Or.inl ⟨by rfl, ?hygcq30⟩) (by assumption) ?restgcq30
  case hygcq30 => (intro V hSw; (try dsimp only at hSw); go_simp; first | done | (with_reducible rfl))
  try simp only [Act.put, List.setIfInBounds_toArray, List.set_cons_zero, List.set_cons_succ]
  refine wpAnyH_ready (rs := [39]) (by kernel_rfl) (by simp) ?_
  refine AllReadyH.cons (o := ⟨some 180, _, _, _, _, _⟩) rfl (fun K hK => ?_) (AllReadyH.nil)
  rw [if_pos (by rfl)]
  go_simp
  (with_reducible refine (KN.out _ (OY.out.trans0 (show Only [] Y u8 from hHeld))).mono ?_); rintro e u9 ⟨rfl, o'⟩; have OS := hide (show Only [] Y u9 from (show Only [] Y u8 from hHeld).trans0 o'); clear o'
  try dsimp only
  refine hK.out _ _ (OS.out) (fun hHeld => ?_)
  clear hK K
  try simp only [Act.put, List.setIfInBounds_toArray, List.set_cons_zero, List.set_cons_succ]
  refine wpAnyH_take (i := 40) (oi := ⟨some 181, _, _, _, _, _⟩) (v := ?vgcq31) rfl (by kernel_rfl) (by kernel_rfl) (by kernel_rfl) (fun _ _ _ h => h) (Or.inl ⟨by rfl, ?hygcq31⟩) (by assumption) ?restgcq31
  case hygcq31 => (intro V hSw; (try dsimp only at hSw); go_simp; first | done | (with_reducible rfl))
  try simp only [Act.put, List.setIfInBounds_toArray, List.set_cons_zero, List.set_cons_succ]
  refine wpAnyH_take (i := 41) (oi := ⟨some 4, _, _, _, _, _⟩) (v := ?vgcq32) rfl (by kernel_rfl) (by kernel_rfl) (by kernel_rfl) (fun _ _ _ h => h) (Or.inl ⟨by rfl, ?hygcq32⟩) (by assumption) ?restgcq32
  case hygcq32 => (intro V hSw; (try dsimp only at hSw); go_simp; first | done | (with_reducible rfl))
  try simp only [Act.put, List.setIfInBounds_toArray, List.set_cons_zero, List.set_cons_succ]
  refine wpAnyH_done (by kernel_rfl) ?_ _
  have O9 := hide (OY.out.trans0 OS.out)
  clear hHeld OS
  go_wp2_with fail
  go_ret
  exact ⟨rfl, O9.out⟩
end Go.Proofs.YtmaljajdmgkakaaGreatDoor
