/- Walks over the law's own functions: pieces, known; the calls of a server that is not there. -/
import Derived.Test.YtidllhnldhnoeaaSv5
namespace Go.Proofs.Ytidllhnldhnoeaa
open Go.RowKit
set_option linter.unusedVariables false
set_option linter.all false

theorem pieces_same (A1 A2 : Option Addr) (n c1 c2 : Nat) (l : List (Int × Int)) (w : World) (hl : l.length = n) (hn : n ≤ 16) (h1 : PSrc w A1 l) (h2 : PSrc w A2 l) :
    Calls Try.prog 18 #[.slice A1 n c1, .slice A2 n c2] w fun e w' => e = .returned (.bool true) ∧ ∃ k, w.drewN k = w' := by
  have H1 := hide h1
  have H2 := hide h2
  have HL := hide hl
  clear h1 h2 hl
  go_enter Try.func18, Try.ntmps18
  go_wp2_with fail
  go_loopw [5] (fun i wr => ∃ k : Nat, k ≤ n ∧ i = .int .i64 k ∧ ∃ m, w.drewN m = wr) (fun i _ => n - (intOf i).toNat)
  case atStart => exact ⟨0, Nat.zero_le _, rfl, 0, rfl⟩
  case round =>
    obtain ⟨k, hk, rfl, m, rfl⟩ := hrel
    by_cases hlt : k < n
    · have hlen := HL.out
      obtain ⟨p, hpk⟩ : ∃ p, l[k]? = some p := ⟨_, List.getElem?_eq_getElem (by omega)⟩
      obtain ⟨g, rfl, hc⟩ := H1.out (by omega)
      obtain ⟨g', rfl, hc'⟩ := H2.out (by omega)
      obtain ⟨e0, e1⟩ := PV_get l k p hpk
      have q0 : w.cell? ⟨g, k * 2, none⟩ = some (.int .i64 p.1) := (hc (k * 2) (by omega)).trans e0
      have q1 : w.cell? ⟨g, k * 2 + 1, none⟩ = some (.int .i64 p.2) := (hc (k * 2 + 1) (by omega)).trans e1
      have r0 : w.cell? ⟨g', k * 2, none⟩ = some (.int .i64 p.1) := (hc' (k * 2) (by omega)).trans e0
      have r1 : w.cell? ⟨g', k * 2 + 1, none⟩ = some (.int .i64 p.2) := (hc' (k * 2 + 1) (by omega)).trans e1
      have i0 : (0 : Int) ≤ (k : Int) := by omega
      have i1 : (k : Int) < (n : Int) := by omega
      clear hlen hpk hc hc' e0 e1
      go_wp2_with fail
      go_quiet (fail)
      go_wp2
      go_roundw
      case rel => exact ⟨k + 1, by omega, by go_num, _, rfl⟩
      case measure => simp [intOf]; omega
    · go_wp2
      go_ret
      exact ⟨rfl, m, rfl⟩

theorem PSrc.lit (w : World) (l : List (Int × Int)) (cs : Array Value) (h : cs = (PV l).toArray) : PSrc (w.alloc (.cells cs 40)) (some ⟨w.heap.size, 0, none⟩) l := fun _ => ⟨_, rfl, fun j _ => by
  rw [(Blk.new w 40 cs).cell j, h, List.getElem?_toArray]⟩
theorem PSrc.only0 {w w' : World} {A : Option Addr} {l : List (Int × Int)} (h : PSrc w A l) (ho : Only [] w w') : PSrc w' A l := fun hp => by
  obtain ⟨g, rfl, hc⟩ := h hp
  refine ⟨g, rfl, fun j hj => ?_⟩
  have hs : ∃ u, (PV l)[j]? = some u := ⟨_, List.getElem?_eq_getElem (by rw [length_PV]; exact hj)⟩
  obtain ⟨u, hu⟩ := hs
  rw [hu]
  exact ho.keep0 ((hc j hj).trans hu)
theorem Sv.step {w0 w w' : World} {B g c : Nat} {A : Option Addr} {s : SS} (h0 : Only [] w0 w) (hS : Sv w B g A c s) (hB : w0.heap.size ≤ B) (ho : Only (g :: blkOf A) w w') : Only [] w0 w' :=
  h0.trans ho fun k hk => .inr (by
    rcases List.mem_cons.1 hk with e | hk
    · have := hS.ge; omega
    · have := (own_ge hS.row k hk).1; omega)

def t1 : SS := ⟨3, 10, 2, 3, true, 5, 0, []⟩
def t2 : SS := ⟨3, 10, 2, 2, true, 5, 1, []⟩
def t3 : SS := ⟨3, 10, 2, 1, true, 5, 2, []⟩
def t4 : SS := ⟨3, 10, 2, 1, false, 0, 0, [(15, 2)]⟩
def t5 : SS := ⟨3, 10, 2, 1, true, 11, 0, [(15, 2)]⟩
def t6 : SS := ⟨3, 10, 2, 0, false, 0, 0, [(15, 2), (21, 1)]⟩
def t7 : SS := ⟨3, 10, 2, 2, false, 0, 0, [(21, 1)]⟩
def t8 : SS := ⟨3, 10, 2, 3, false, 0, 0, []⟩
theorem step1 : sStart (sNew 3 10 2) 5 = (t1, 0) := by kernel_rfl
theorem step2 : sUse t1 = (t2, (false, 0)) := by kernel_rfl
theorem step3 : sUse t2 = (t3, (false, 0)) := by kernel_rfl
theorem step4 : sStopAt t3 9 = (t4, 0) := by kernel_rfl
theorem step5 : sStart t4 11 = (t5, 0) := by kernel_rfl
theorem step6 : sUse t5 = (t6, (true, 0)) := by kernel_rfl
theorem step7 : sDue t6 14 = t6 ∧ dsum 14 t6.ps = 0 := ⟨by kernel_rfl, by kernel_rfl⟩
theorem step8 : sDue t6 15 = t7 ∧ dsum 15 t6.ps = 2 := ⟨by kernel_rfl, by kernel_rfl⟩
theorem step9 : sDue t7 30 = t8 ∧ dsum 30 t7.ps = 1 := ⟨by kernel_rfl, by kernel_rfl⟩
theorem step10 : sUse t8 = (t8, (false, 7)) := by kernel_rfl
theorem high6 : high t6 = false := by kernel_rfl
theorem high7 : high t7 = true := by kernel_rfl

set_option maxRecDepth 100000 in
set_option maxHeartbeats 4000000 in
theorem known_any (w : World) : Calls Try.prog 7 #[] w fun e w' => e = .returned (.bool true) ∧ Only [] w w' := by
  go_enter Try.func7, Try.ntmps7
  go_wp2_with fail
  refine (new_good 3 10 2 w (by omega) (by omega) (by omega) (by omega) (by omega)).mono ?_
  rintro e wa ⟨rfl, oa, ha⟩
  go_wp2_with fail
  refine (start_any 5 ha).mono ?_
  rw [step1]
  rintro e wb ⟨rfl, ob, hb⟩
  have ob' := oa.trans ob (by simp)
  go_wp2_with fail
  refine (use_any hb ob'.size).mono ?_
  rw [step2]
  rintro e wc ⟨rfl, oc, ⟨A1, c1, hc, _⟩⟩
  have oc' := Sv.step ob' hb (Nat.le_refl _) oc
  go_wp2_with fail
  refine (use_any hc oc'.size).mono ?_
  rw [step3]
  rintro e wd ⟨rfl, od, ⟨A2, c2, hd, _⟩⟩
  have od' := Sv.step oc' hc (Nat.le_refl _) od
  go_wp2_with fail
  refine (stopAt_any 9 hd od'.size).mono ?_
  rw [step4]
  rintro e we ⟨rfl, oe, ⟨A3, c3, he, _⟩⟩
  have oe' := Sv.step od' hd (Nat.le_refl _) oe
  go_wp2_with fail
  refine (pieces_any he).mono ?_
  rintro e wf ⟨⟨A4, c4, rfl, hown⟩, of_⟩
  have of' := oe'.trans0 of_
  have hf := he.only0 of_
  have of_2 := (Only.refl [] wf).alloc (.cells #[.int .i64 15, .int .i64 2] 40)
  go_wp2_with fail
  refine (pieces_same A4 (some ⟨wf.heap.size, 0, none⟩) 1 c4 1 [(15, 2)] _ rfl (by omega) ((PSrc.own hown).only0 of_2) (PSrc.lit wf [(15, 2)] _ rfl)).mono ?_
  rintro e w' ⟨rfl, kf, rfl⟩
  have of3 := (of'.trans0 of_2).drewN kf
  have hf3 := hf.only0 (of_2.drewN kf)
  clear hown
  go_wp2_with fail
  refine (left_any hf3).mono ?_
  rintro e w' ⟨rfl, rfl⟩
  go_wp2_with fail
  refine (start_any 11 hf3).mono ?_
  rw [step5]
  rintro e wg ⟨rfl, og, hg⟩
  have og' := of3.trans og (by simp)
  go_wp2_with fail
  refine (use_any hg og'.size).mono ?_
  rw [step6]
  rintro e wh ⟨rfl, oh, ⟨A5, c5, hh, _⟩⟩
  have oh' := Sv.step og' hg (Nat.le_refl _) oh
  go_wp2_with fail
  refine (high_any hh).mono ?_
  rw [high6]
  rintro e w' ⟨rfl, kh, rfl⟩
  have oh2 := oh'.drewN kh
  have hh2 := hh.only0 ((Only.refl _ _).drewN kh)
  go_wp2_with fail
  refine (pieces_any hh2).mono ?_
  rintro e wi ⟨⟨A6, c6, rfl, hown⟩, oi⟩
  have oi' := oh2.trans0 oi
  have hi := hh2.only0 oi
  have oi_2 := (Only.refl [] wi).alloc (.cells #[.int .i64 15, .int .i64 2, .int .i64 21, .int .i64 1] 40)
  go_wp2_with fail
  refine (pieces_same A6 (some ⟨wi.heap.size, 0, none⟩) 2 c6 2 [(15, 2), (21, 1)] _ rfl (by omega) ((PSrc.own hown).only0 oi_2) (PSrc.lit wi [(15, 2), (21, 1)] _ rfl)).mono ?_
  rintro e w' ⟨rfl, ki, rfl⟩
  have oi3 := (oi'.trans0 oi_2).drewN ki
  have hi3 := hi.only0 (oi_2.drewN ki)
  clear hown
  go_wp2_with fail
  refine (due_any 14 hi3 oi3.size).mono ?_
  rw [step7.1, step7.2]
  rintro e wj ⟨rfl, oj, ⟨A7, c7, hj, _⟩⟩
  have oj' := Sv.step oi3 hi3 (Nat.le_refl _) oj
  go_wp2_with fail
  refine (due_any 15 hj oj'.size).mono ?_
  rw [step8.1, step8.2]
  rintro e wk ⟨rfl, ok, ⟨A8, c8, hk, _⟩⟩
  have ok' := Sv.step oj' hj (Nat.le_refl _) ok
  go_wp2_with fail
  refine (high_any hk).mono ?_
  rw [high7]
  rintro e w' ⟨rfl, kk, rfl⟩
  have ok2 := ok'.drewN kk
  have hk2 := hk.only0 ((Only.refl _ _).drewN kk)
  go_wp2_with fail
  refine (due_any 30 hk2 ok2.size).mono ?_
  rw [step9.1, step9.2]
  rintro e wl ⟨rfl, ol, ⟨A9, c9, hl, _⟩⟩
  have ol' := Sv.step ok2 hk2 (Nat.le_refl _) ol
  go_wp2_with fail
  refine (left_any hl).mono ?_
  rintro e w' ⟨rfl, rfl⟩
  go_wp2_with fail
  refine (new_bad 4 3 1 _ (by omega)).mono ?_
  rintro e w' ⟨rfl, rfl⟩
  go_wp2_with fail
  refine (new_bad 0 3 1 _ (by omega)).mono ?_
  rintro e w' ⟨rfl, rfl⟩
  go_wp2_with fail
  refine (use_any hl ol'.size).mono ?_
  rw [step10]
  rintro e wm ⟨rfl, om, ⟨A10, c10, hm, _⟩⟩
  have om' := Sv.step ol' hl (Nat.le_refl _) om
  go_wp2_with fail
  go_ret
  exact ⟨rfl, om'⟩

/-! ### what is not there -/
theorem start_gone (p : Option Addr) (n : Int) (w : World) (h : Gone w p) : Calls Try.prog 8 #[.pointer p, .int .i64 n] w fun e w' => e = .returned (.int .i64 1) ∧ w = w' := by
  have H := hide h
  clear h
  go_enter Try.func8, Try.ntmps8
  go_wp2_with (go_at_call 19; refine (is_no _ _ H.out).mono ?_; rintro e w' ⟨rfl, rfl⟩)
  go_ret
  exact ⟨rfl, rfl⟩
theorem use_gone (p : Option Addr) (w : World) (h : Gone w p) : Calls Try.prog 9 #[.pointer p] w fun e w' => e = .returned (.tuple #[.bool false, .int .i64 1]) ∧ w = w' := by
  have H := hide h
  clear h
  go_enter Try.func9, Try.ntmps9
  go_wp2_with (go_at_call 19; refine (is_no _ _ H.out).mono ?_; rintro e w' ⟨rfl, rfl⟩)
  go_ret2
  exact ⟨rfl, rfl⟩
theorem stopAt_gone (p : Option Addr) (n : Int) (w : World) (h : Gone w p) : Calls Try.prog 10 #[.pointer p, .int .i64 n] w fun e w' => e = .returned (.int .i64 1) ∧ w = w' := by
  have H := hide h
  clear h
  go_enter Try.func10, Try.ntmps10
  go_wp2_with (go_at_call 19; refine (is_no _ _ H.out).mono ?_; rintro e w' ⟨rfl, rfl⟩)
  go_ret
  exact ⟨rfl, rfl⟩
theorem due_gone (p : Option Addr) (n : Int) (w : World) (h : Gone w p) : Calls Try.prog 11 #[.pointer p, .int .i64 n] w fun e w' => e = .returned (.int .i64 0) ∧ Only [] w w' := by
  have H := hide h
  clear h
  go_enter Try.func11, Try.ntmps11
  go_wp2_with (go_at_call 19; refine (is_no _ _ (H.out.only0 ((Only.refl _ _).alloc _))).mono ?_; rintro e w' ⟨rfl, rfl⟩)
  go_ret
  exact ⟨rfl, (Only.refl _ _).alloc _⟩
theorem active_gone (p : Option Addr) (w : World) (h : Gone w p) : Calls Try.prog 12 #[.pointer p] w fun e w' => e = .returned (.tuple #[.int .i64 0, .int .i64 0, .bool false]) ∧ w = w' := by
  have H := hide h
  clear h
  go_enter Try.func12, Try.ntmps12
  go_wp2_with (go_at_call 19; refine (is_no _ _ H.out).mono ?_; rintro e w' ⟨rfl, rfl⟩)
  go_ret3
  exact ⟨rfl, rfl⟩
theorem left_gone (p : Option Addr) (w : World) (h : Gone w p) : Calls Try.prog 13 #[.pointer p] w fun e w' => e = .returned (.int .i64 0) ∧ w = w' := by
  have H := hide h
  clear h
  go_enter Try.func13, Try.ntmps13
  go_wp2_with (go_at_call 19; refine (is_no _ _ H.out).mono ?_; rintro e w' ⟨rfl, rfl⟩)
  go_ret
  exact ⟨rfl, rfl⟩
theorem pieces_gone (p : Option Addr) (w : World) (h : Gone w p) : Calls Try.prog 14 #[.pointer p] w fun e w' => e = .returned (.slice none 0 0) ∧ w = w' := by
  have H := hide h
  clear h
  go_enter Try.func14, Try.ntmps14
  go_wp2_with (go_at_call 19; refine (is_no _ _ H.out).mono ?_; rintro e w' ⟨rfl, rfl⟩)
  go_ret
  exact ⟨rfl, rfl⟩
theorem high_gone (p : Option Addr) (w : World) (h : Gone w p) : Calls Try.prog 15 #[.pointer p] w fun e w' => e = .returned (.bool false) ∧ ∃ k, w.drewN k = w' := by
  have H := hide h
  clear h
  go_enter Try.func15, Try.ntmps15
  go_wp2_with fail
  go_quiet ((go_at_call 19; exact quiet_left (is_no _ _ (H.out.only0 ((Only.refl _ _).drewN _)))))
  go_wp2
  go_ret
  exact ⟨rfl, _, rfl⟩
theorem copy_gone (p : Option Addr) (w : World) (h : Gone w p) : Calls Try.prog 16 #[.pointer p] w fun e w' => e = .returned (.pointer none) ∧ w = w' := by
  have H := hide h
  clear h
  go_enter Try.func16, Try.ntmps16
  go_wp2_with (go_at_call 19; refine (is_no _ _ H.out).mono ?_; rintro e w' ⟨rfl, rfl⟩)
  go_ret
  exact ⟨rfl, rfl⟩
end Go.Proofs.Ytidllhnldhnoeaa
