/- Turns: the walk of TurnsGreatest. Condition: the script's cells lie. -/
import Derived.Test.YtnndengdlokmbaaTu20
import Derived.Deep.RegionHeld3
namespace Go.Proofs.Ytnndengdlokmbaa
open Go.RowKit
set_option linter.unusedVariables false
set_option linter.all false
set_option maxRecDepth 20000

set_option maxHeartbeats 2000000 in
theorem greatest_bad (Q : Int) (A : Option Addr) (n c : Nat) (hQ : ¬ (1 ≤ Q ∧ Q ≤ 100)) (w : World) : Calls Try.prog 5 #[.int .i64 Q, .slice A n c] w fun e w' => e = .returned (.bool true) ∧ Only [] w w' := by
  have NB := hide (tnew_bad Q hQ w)
  by_cases h1 : Q < 1
  · have g1 : decide (Q < 1) = true := decide_eq_true h1
    clear hQ h1
    go_enter Try.func5, Try.ntmps5
    go_wp2_with (first
      | (go_at_call 10; refine NB.out.mono ?_; rintro e w1 ⟨he, hw⟩; obtain rfl := hw.symm; unfold newE at he; subst he)
      | (go_at_call 9; refine (known_any _).mono ?_; rintro e w2 ⟨rfl, o2⟩))
    go_ret
    exact ⟨rfl, o2⟩
  · have g1 : decide (Q < 1) = false := decide_eq_false h1
    have g2 : decide (100 < Q) = true := decide_eq_true (by omega)
    clear hQ h1
    go_enter Try.func5, Try.ntmps5
    go_wp2_with (first
      | (go_at_call 10; refine NB.out.mono ?_; rintro e w1 ⟨he, hw⟩; obtain rfl := hw.symm; unfold newE at he; subst he)
      | (go_at_call 9; refine (known_any _).mono ?_; rintro e w2 ⟨rfl, o2⟩))
    go_ret
    exact ⟨rfl, o2⟩
set_option maxHeartbeats 2000000 in
theorem greatest_out (Q : Int) (A : Option Addr) (n c : Nat) (q1 : 1 ≤ Q) (q2 : Q ≤ 100) (hn : 200 < n) (w : World) : Calls Try.prog 5 #[.int .i64 Q, .slice A n c] w fun e w' => e = .returned (.bool true) ∧ Only [] w w' := by
  have NW := hide (tnew_good Q q1 q2 w)
  unfold ptr at NW
  have g1 : decide (Q < 1) = false := decide_eq_false (by omega)
  have g2 : decide (100 < Q) = false := decide_eq_false (by omega)
  have g3 : decide (200 < (n : Int)) = true := decide_eq_true (by omega)
  clear q1 q2 hn
  go_enter Try.func5, Try.ntmps5
  go_wp2_with (first
    | (go_at_call 10; refine NW.out.mono ?_; rintro e w0 ⟨x, g, he, r0, hx, hg, o0⟩; unfold newE at he; subst he; clear r0)
    | (go_at_call 9; refine (known_any _).mono ?_; rintro e w2 ⟨rfl, o2⟩))
  go_ret
  exact ⟨rfl, o0.trans0 o2⟩
theorem BS.facts {W : World} {x g : Nat} {Q : Int} {s : SS} {B : Int} (h : BS W x g Q s B) : s.q 0 = [] ∧ (∀ p, (s.q p).length ≤ 16) ∧ x < W.heap.size ∧ g < W.heap.size := by
  obtain ⟨st, a, b, T⟩ := h
  exact ⟨T.2.facts.1, T.2.facts.2.1, (TS.lt T).1, (TS.lt T).2⟩
/-- Of, for a list with a name. -/
theorem ofN {x g : Nat} {Q : Int} {s : SS} {B : Int} (p : Nat) (h1 : 1 ≤ p) (h2 : p ≤ 31) (n : Nat) (hn : (s.q p).length = n) (W : World) (h : BS W x g Q s B) : Calls Try.prog 16 #[.pointer (some ⟨x, 0, none⟩), .int .i64 p] W fun e w' => (∃ A c, e = .returned (.slice A n c) ∧ w'.ownsRow W.heap.size 3 1 (.slice A n c) n (NV (s.q p))) ∧ BS w' x g Q s B ∧ Only [] W w' :=
  ofB x g Q s B B rfl p (s.q p) (by unfold ofL; rw [if_pos ⟨by omega, by omega⟩, Int.toNat_natCast]) n hn W h
theorem WasAt.at_ {W : World} {b k p : Nat} {q : Nat → List Nat} (h : WasAt W b q k) (hp : p < 32) : W.frozen? ⟨b, p, none⟩ = false ∧ ∃ v, W.cell? ⟨b, p, none⟩ = some v := by
  obtain ⟨cs, bb, hz, -⟩ := h
  exact ⟨bb.frozen p, _, (bb.cell p).trans (Array.getElem?_eq_getElem (by omega))⟩
theorem WasAt.get {W : World} {b k p : Nat} {q : Nat → List Nat} (h : WasAt W b q k) (h1 : 1 ≤ p) (hp : p < k) : ∃ A c, W.cell? ⟨b, p, none⟩ = some (.slice A (q p).length c) ∧ Nsrc W A (q p) := by
  obtain ⟨cs, bb, hz, h3⟩ := h
  obtain ⟨A, c, h4, h5⟩ := h3 p h1 hp
  exact ⟨A, c, (bb.cell p).trans h4, Nsrc.own h5⟩
theorem without_to (A : Option Addr) (c N n : Nat) (l m : List Nat) (t : Int) (hN : l.length = N) (hm : wo t l = m) (hn : m.length = n) (w : World) (hA : Nsrc w A l) (hl : N ≤ 1000) :
    Calls Try.prog 19 #[.slice A N c, .int .i64 t] w fun e w' => (∃ A' c', e = .returned (.slice A' n c') ∧ Nsrc w' A' m) ∧ Only [] w w' := by
  subst hN hm hn
  refine (without_any A c l t w hA hl).mono ?_
  rintro e w' ⟨⟨A', c', he, ho⟩, o⟩
  exact ⟨⟨A', c', he, Nsrc.own ho⟩, o⟩
theorem ints_same (A B : Option Addr) (c d n : Nat) (m : List Nat) (hn : m.length = n) (hl : n ≤ 1000) (w : World) (hA : Nsrc w A m) (hB : Nsrc w B m) :
    Calls Try.prog 18 #[.slice A n c, .slice B n d] w fun e w' => e = .returned (.bool true) ∧ Only [] w w' := by
  subst hn
  refine (ints_any A B c d m m w hA hB hl hl).mono ?_
  rintro e w' ⟨he, k, hk⟩
  subst hk
  rw [show decide (m = m) = true from decide_eq_true rfl] at he
  exact ⟨he, (Only.refl [] w).drewN k⟩
theorem Nsrc.own' {w : World} {base c N : Nat} {A : Option Addr} {l : List Nat} (hN : l.length = N) (h : w.ownsRow base 3 1 (.slice A N c) N (NV l)) : Nsrc w A l := by
  subst hN
  exact Nsrc.own h
theorem Nsrc.head {W : World} {A : Option Addr} {t : Nat} {r : List Nat} (h : Nsrc W A (t :: r)) : ∃ g, A = some ⟨g, 0, none⟩ ∧ W.cell? ⟨g, 0, none⟩ = some (.int .i64 t) := by
  obtain ⟨g, h1, h2⟩ := h (by simp)
  exact ⟨g, h1, h2 0 t rfl⟩
set_option maxHeartbeats 16000000 in
theorem greatest_in (Q : Int) (A : Option Addr) (n c : Nat) (q1 : 1 ≤ Q) (q2 : Q ≤ 100) (hn : n ≤ 200) (w : World) (hst : StepsAt w A n) : Calls Try.prog 5 #[.int .i64 Q, .slice A n c] w fun e w' => e = .returned (.bool true) ∧ Only [] w w' := by
  have NW := hide (tnew_good Q q1 q2 w)
  unfold ptr at NW
  have g1 : decide (Q < 1) = false := decide_eq_false (by omega)
  have g2 : decide (100 < Q) = false := decide_eq_false (by omega)
  have g3 : decide (200 < (n : Int)) = false := decide_eq_false (by omega)
  have HST := hide hst
  clear hst
  go_enter Try.func5, Try.ntmps5
  go_wp2_with (first
    | (go_at_call 10; refine NW.out.mono ?_; rintro e w0 ⟨x, g, he, r0, hx, hg, o0⟩; unfold newE at he; subst he; have hgS : ∀ k ∈ [x, g], w.heap.size ≤ k := (fun k hk => by simp at hk; rcases hk with rfl | rfl <;> assumption)))
  have B0 : BS w0 x g Q ⟨fun _ => [], fun _ => false, fun _ => 0⟩ 0 := ⟨0, by decide, by decide, r0⟩
  clear r0 g1 g2 g3
  go_loopw [7, 8, 9, 10, 11, 12, 13, 14, 15, 16, 17] (fun vi _ _ _ _ _ _ _ _ _ _ wr => ∃ (i : Nat) (s : SS), i ≤ n ∧ vi = .int .i64 i ∧ LfOk s ∧ BS wr x g Q s (30 * i) ∧ Only [] w wr) (fun vi _ _ _ _ _ _ _ _ _ _ _ => n - (intOf vi).toNat)
  case atStart => exact ⟨0, ⟨fun _ => [], fun _ => false, fun _ => 0⟩, Nat.zero_le _, rfl, fun t => ⟨Int.le_refl _, by show (0 : Int) ≤ 1000; decide⟩, by simpa using B0, o0⟩
  case round =>
    clear B0
    obtain ⟨i, s, hi, rfl, hl, hB, hO⟩ := hrel
    by_cases hlt : i < n
    · have j1 : (i : Int) < (n : Int) := by omega
      obtain ⟨f1, f2, f3, f4⟩ := hB.facts
      have hbx : ∀ k ∈ [x, g], k < wr.heap.size := (fun k hk => by simp at hk; rcases hk with rfl | rfl <;> assumption)
      have oA : Only [] wr (wr.alloc (.cells Z36 36)) := (Only.refl [] wr).alloc _
      have hW1 := WasAt.new wr s.q
      have hB1 : BS (wr.alloc (.cells Z36 36)) x g Q s (30 * i) := hB.only oA (by simp) (by simp)
      have hO1 := hO.trans0 oA
      obtain ⟨W1, hWW⟩ : ∃ W1, wr.alloc (.cells Z36 36) = W1 := ⟨_, rfl⟩
      obtain ⟨b, hb⟩ : ∃ b, wr.heap.size = b := ⟨_, rfl⟩
      have hwb : w.heap.size ≤ b := by have := hO.size; omega
      rw [hWW, hb] at hW1
      rw [hWW] at hB1 hO1 oA
      rw [hb] at hbx
      have hZ := zero36
      have HF2 := hide f2
      have HL := hide hl
      clear f1 f2 f3 f4 hB hO hl
      go_wp2_with fail
      (try rw [hWW, hb])
      clear hWW hb hZ oA
      go_loopw [9] (fun vp wr => ∃ p : Nat, 1 ≤ p ∧ p ≤ 32 ∧ vp = .int .i64 p ∧ WasAt wr b s.q p ∧ BS wr x g Q s (30 * i) ∧ Only [] w wr) (fun vp _ => 32 - (intOf vp).toNat)
      case atStart => exact ⟨1, by omega, by omega, rfl, hW1, hB1, hO1⟩
      case round =>
        clear hW1 hB1 hO1
        obtain ⟨p, p1, p2, rfl, hW, hB, hO⟩ := hrel
        by_cases hlt2 : p < 32
        · have j2 : (p : Int) ≤ 31 := by omega
          have j0 : (0 : Int) ≤ (p : Int) := by omega
          have j3 : (p : Int) < 32 := by omega
          obtain ⟨N, hN⟩ : ∃ N, (s.q p).length = N := ⟨_, rfl⟩
          have OF := hide (ofN p p1 (by omega) N hN wr hB)
          have HW := hide hW
          have HO := hide hO
          have HN := hide hN
          have hsz : b + 1 ≤ wr.heap.size := by obtain ⟨cs, h, _⟩ := hW; exact h.lt
          clear hW hO hN hB
          go_wp2_with (first
            | (go_at_call 16; refine OF.out.mono ?_; rintro e w2 ⟨⟨A2, c2, rfl, own2⟩, hB2, o2⟩; have hW2 := HW.out.only o2 (by simp); obtain ⟨fz, vz, kc⟩ := hW2.at_ hlt2))
          go_roundw
          case rel =>
            refine ⟨p + 1, by omega, by omega, by go_num, (HW.out.only o2 (by simp)).store hlt2 HN.out (own_mono own2 hsz), hB2.only ((Only.refl [b] w2).setCell (p := ⟨b, p, none⟩) (.inl (by simp)) _) ?_ ?_, (HO.out.trans0 o2).setCell (p := ⟨b, p, none⟩) (.inr hwb) _⟩
            · have := hbx x (by simp); simp; omega
            · have := hbx g (by simp); simp; omega
          case measure => simp [intOf]; omega
        · obtain rfl : p = 32 := by omega
          obtain ⟨a, kd, t, pp, rb, rfl, k0, k1, k2, k3⟩ := (HST.out.only0 hO) i hlt
          obtain ⟨fr, hfr⟩ : ∃ fr, firstT s.q = fr := ⟨_, rfl⟩
          obtain ⟨bz, hbz⟩ : ∃ bz, decide (allQ s.q ≠ []) = bz := ⟨_, rfl⟩
          obtain ⟨s', hs'⟩ : ∃ s', stepS Q s kd t pp rb = s' := ⟨_, rfl⟩
          have hl' : LfOk s' := hs' ▸ HL.out.step q1 q2 kd t pp rb
          obtain ⟨fr', hfr'⟩ : ∃ fr', firstT s'.q = fr' := ⟨_, rfl⟩
          obtain ⟨bz', hbz'⟩ : ∃ bz', decide (allQ s'.q ≠ []) = bz' := ⟨_, rfl⟩
          have RU := hide (fun W h => whoB x g Q s (30 * i) (30 * i + 9) (by omega) (by omega) fr bz hbz hfr W h)
          have ON := hide (fun W h => one_any x g Q s (30 * i + 9) (by omega) HL.out kd t pp rb W h)
          rw [hs'] at ON
          have RV := hide (fun W h => whoB x g Q s' (30 * i + 9 + 9) (30 * i + 9 + 9 + 9) (by omega) (by omega) fr' bz' hbz' hfr' W h)
          have bb2 : b < wr.heap.size := by obtain ⟨cs, h, _⟩ := hW; exact h.lt
          have hZ := zero39
          unfold Z39 at hZ
          have B2 := Blk.new wr 39 #[.int .i64 kd, .int .i64 t, .int .i64 pp, .bool rb]
          have oA : Only [] wr (wr.alloc (.cells #[.int .i64 kd, .int .i64 t, .int .i64 pp, .bool rb] 39)) := (Only.refl [] wr).alloc _
          obtain ⟨W2, hWW2⟩ : ∃ W2, wr.alloc (.cells #[.int .i64 kd, .int .i64 t, .int .i64 pp, .bool rb] 39) = W2 := ⟨_, rfl⟩
          obtain ⟨b2, hb2⟩ : ∃ b2, wr.heap.size = b2 := ⟨_, rfl⟩
          rw [hWW2, hb2] at B2
          rw [hWW2] at oA
          have HBA := hide (hB.only oA (by simp) (by simp))
          have HWA := hide (hW.only oA (by simp))
          have HOA := hide (hO.trans0 oA)
          rw [hb2] at bb2
          have hbx2 : ∀ k ∈ [x, g], k < b2 := fun k hk => Nat.lt_trans (hbx k hk) bb2
          have HNX := hide (show b2 ∉ [x, g] from fun h => Nat.lt_irrefl _ (hbx2 _ h))
          have HXN := hide (show x ∉ [b2] from fun h => by have := hbx2 x (by simp); simp at h; omega)
          have HGN := hide (show g ∉ [b2] from fun h => by have := hbx2 g (by simp); simp at h; omega)
          have HSX := hide (show ∀ k ∈ [x, g], k < b from hbx)
          have B2 := hide B2
          have j0 : (0 : Int) ≤ (i : Int) := by omega
          have HWB := hide (show w.heap.size ≤ b2 by omega)
          have HL2 := hide hl'
          have HBZ := hide hbz'
          have HFR := hide hfr'
          clear hW hB hO oA hbx hl'
          by_cases h4 : kd = 4
          · subst h4
            have hal : Alike fr s.q s'.q := by rw [← hs', ← hfr]; exact tick_alike Q s t pp rb
            have HAL := hide hal
            have HBX := hide hbx2
            clear hal hfr hbz hs' hfr' hbz' hbx2
            go_wp2_with (first
              | (go_at_call 14; (with_reducible refine (RV.out _ hB5).mono ?_); rintro e w5 ⟨rfl, hB6, o5⟩)
              | (go_at_call 17; (with_reducible refine (ON.out _ hB3).mono ?_); rintro e w4 ⟨rfl, hB4, o4⟩; have b4 := b3.only o4 HNX.out; have c40 := (b4.cell 0).trans rfl; have c41 := (b4.cell 1).trans rfl; have fz := b4.frozen 1; have hB5 := hB4.only ((Only.refl [b2] w4).setCell (p := ⟨b2, 1, none⟩) (.inl (by simp)) (.int .i64 fr)) HXN.out HGN.out)
              | (go_at_call 14; (with_reducible refine (RU.out _ HBA.out).mono ?_); rintro e w3 ⟨rfl, hB3, o3⟩; have b3 := B2.out.only o3 HNX.out; have c30 := (b3.cell 0).trans rfl; have c31 := (b3.cell 1).trans rfl; have c32 := (b3.cell 2).trans rfl; have c33 := (b3.cell 3).trans rfl))
            have b5 : Blk w5 b2 39 #[.int .i64 4, .int .i64 fr, .int .i64 pp, .bool rb] := (b4.set_ 1 (.int .i64 fr)).only o5 HNX.out
            have hW5 := (((HWA.out.only o3 HSX.out).only o4 HSX.out).far b2 _ b4 1 (.int .i64 fr)).only o5 HSX.out
            have hO5 := only_in ((only_in (only_in HOA.out o3 hgS) o4 hgS).setCell (p := ⟨b2, 1, none⟩) (.inr HWB.out) (.int .i64 fr)) o5 hgS
            obtain ⟨G1, G2, -, -⟩ := hB6.facts
            clear b3 b4 c30 c31 c32 c33 c40 o3 o4 o5 hB3 hB4 hB5 c41 fz ON RU RV HBA
            go_loopw [15, 16, 17] (fun vf vp _ wr => ∃ (p : Nat) (f : Int), p ≤ 31 ∧ vp = .int .i64 p ∧ vf = .int .i64 f ∧ Fst s'.q p f ∧ Blk wr b2 39 #[.int .i64 4, .int .i64 fr, .int .i64 pp, .bool rb] ∧ WasAt wr b s.q 32 ∧ BS wr x g Q s' (30 * i + 9 + 9 + 9) ∧ Only [] w wr) (fun _ vp _ _ => (intOf vp).toNat)
            case atStart => exact ⟨31, -1, by omega, rfl, rfl, Fst.start _, b5, hW5, hB6, hO5⟩
            case round =>
              clear b5 hW5 hB6 hO5
              obtain ⟨p, f, hp, rfl, rfl, hF, bR, hW, hB, hO⟩ := hrel
              by_cases hlt3 : 0 < p
              · obtain ⟨k, hk⟩ : ∃ k, p = k + 1 := ⟨p - 1, by omega⟩
                have HK := hide hk
                have e1 : (0 : Int) < (p : Int) := by omega
                have e2 : IntKind.i64.wrap ((p : Int) - 1) = (k : Int) := by rw [IntWalk.i64_in _ (by omega)]; omega
                have e3 : (0 : Int) ≤ (p : Int) := by omega
                have e4 : (p : Int) < 32 := by omega
                obtain ⟨N, hN⟩ : ∃ N, (s'.q p).length = N := ⟨_, rfl⟩
                have hN16 : N ≤ 16 := hN ▸ G2 p
                have OF := hide (ofN p (by omega) (by omega) N hN wr hB)
                obtain ⟨A5, c5, k5, n5⟩ := hW.get (p := p) (by omega) (by omega)
                obtain ⟨N5, hN5⟩ : ∃ N, (s.q p).length = N := ⟨_, rfl⟩
                rw [hN5] at k5
                have hN5' : N5 ≤ 16 := hN5 ▸ HF2.out p
                obtain ⟨m, hm⟩ : ∃ m, wo fr (s.q p) = m := ⟨_, rfl⟩
                have hm' : wo fr (s'.q p) = m := (HAL.out _).trans hm
                obtain ⟨M, hM⟩ : ∃ M, m.length = M := ⟨_, rfl⟩
                have hM16 : M ≤ 1000 := by have := wo_le fr (s.q p); rw [hm, hM, hN5] at this; omega
                have k1 : wr.cell? ⟨b2, 1, none⟩ = some (.int .i64 fr) := (bR.cell 1).trans rfl
                have HN := hide hN
                have HM := hide hm
                have HM' := hide hm'
                have HL5 := hide hN5
                have HLM := hide hM
                have HK1 := hide k1
                have HK5 := hide k5
                have HN5 := hide n5
                have HR := hide bR
                have HW := hide hW
                have HO := hide hO
                have HF := hide hF
                rcases hl : s'.q p with _ | ⟨t0, r⟩
                · have HQ := hide hl
                  obtain rfl : N = 0 := by rw [← hN, hl]; rfl
                  clear hk hl hN hm hm' hN5 hM k1 k5 n5 bR hW hO hF hB
                  go_wp2_with (first
                    | (go_at_call 16; (with_reducible refine OF.out.mono ?_); rintro e w6 ⟨⟨A2, c2, rfl, own2⟩, hB7, o7⟩; have n2 := Nsrc.own' HN.out own2; have n5 := HN5.out.only0 o7; have k1 := o7.keep0 HK1.out; have k5 := o7.keep0 HK5.out))
                  have WA := hide (without_to A2 c2 0 M _ m fr HN.out HM'.out HLM.out w6.drew (show Nsrc w6.drew _ _ from n2) (by omega))
                  have WB := hide (fun V (o : Only [] w6.drew V) => without_to A5 c5 N5 M _ m fr HL5.out HM.out HLM.out V ((show Nsrc w6.drew _ _ from n5).only0 o) (by omega))
                  have HH1 := hide k1
                  have HH5 := hide k5
                  have HN2 := hide n2
                  have HN6 := hide n5
                  clear n2 n5 own2
                  go_region_held3 (fun V => V.cell? ⟨b2, 1, none⟩ = some (.int .i64 fr) ∧ V.cell? ⟨b, p, none⟩ = some (.slice A5 N5 c5)) (first | go_keep | exact ⟨q1, q5⟩ | exact ⟨m1, m5⟩ | exact ⟨j1, j5⟩ | exact ⟨k1, k5⟩) (first
                    | (go_at_call 18; (with_reducible refine (ints_same _ _ _ _ M m HLM.out hM16 _ (u8.only0 o9) u9).mono ?_); rintro e w9 ⟨rfl, o10⟩; have q1 := o10.keep0 m1; have q5 := o10.keep0 m5)
                    | (go_at_call 19; (with_reducible refine (WB.out _ o8).mono ?_); rintro e w8 ⟨⟨A4, c4, rfl, u9⟩, o9⟩; have m1 := o9.keep0 j1; have m5 := o9.keep0 j5)
                    | (go_at_call 19; (with_reducible refine WA.out.mono ?_); rintro e w7 ⟨⟨A3, c3, rfl, u8⟩, o8⟩; have j1 := o8.keep0 HH1.out; have j5 := o8.keep0 HH5.out))
                  go_wp2_with fail
                  have oT := (((Only.refl [] wr).trans0 o7).drew.trans0 o8 |>.trans0 o9).trans0 o10
                  go_roundw
                  case rel => exact ⟨k, f, by have := HK.out; omega, by go_num, rfl, (show Fst s'.q (k + 1) f from HK.out ▸ HF.out).none_ (HK.out ▸ HQ.out), HR.out.only oT (by simp), HW.out.only oT (by simp), hB7.only ((Only.refl [] w6).drew.trans0 o8 |>.trans0 o9 |>.trans0 o10) (by simp) (by simp), HO.out.trans0 oT⟩
                  case measure => simp [intOf]; have := HK.out; omega
                · have HQ := hide hl
                  have d0 : (0 : Int) < (N : Int) := by rw [← hN, hl]; simp
                  clear hk hl hN hm hm' hN5 hM k1 k5 n5 bR hW hO hB
                  by_cases hf : f < 0
                  · obtain rfl := hF.neg hf
                    clear hf hF
                    go_wp2_with (first
                      | (go_at_call 16; (with_reducible refine OF.out.mono ?_); rintro e w6 ⟨⟨A2, c2, rfl, own2⟩, hB7, o7⟩; have n2 := Nsrc.own' HN.out own2; have n5 := HN5.out.only0 o7; have k1 := o7.keep0 HK1.out; have k5 := o7.keep0 HK5.out; obtain ⟨gg, rfl, kh⟩ := (show Nsrc w6 A2 (t0 :: r) from HQ.out ▸ n2).head))
                    have WA := hide (without_to (some ⟨gg, 0, none⟩) c2 N M _ m fr HN.out HM'.out HLM.out w6.drew (show Nsrc w6.drew _ _ from n2) (by omega))
                    have WB := hide (fun V (o : Only [] w6.drew V) => without_to A5 c5 N5 M _ m fr HL5.out HM.out HLM.out V ((show Nsrc w6.drew _ _ from n5).only0 o) (by omega))
                    have HH1 := hide k1
                    have HH5 := hide k5
                    have HN2 := hide n2
                    have HN6 := hide n5
                    clear n2 n5 own2
                    go_region_held3 (fun V => V.cell? ⟨b2, 1, none⟩ = some (.int .i64 fr) ∧ V.cell? ⟨b, p, none⟩ = some (.slice A5 N5 c5)) (first | go_keep | exact ⟨q1, q5⟩ | exact ⟨m1, m5⟩ | exact ⟨j1, j5⟩ | exact ⟨k1, k5⟩) (first
                      | (go_at_call 18; (with_reducible refine (ints_same _ _ _ _ M m HLM.out hM16 _ (u8.only0 o9) u9).mono ?_); rintro e w9 ⟨rfl, o10⟩; have q1 := o10.keep0 m1; have q5 := o10.keep0 m5)
                      | (go_at_call 19; (with_reducible refine (WB.out _ o8).mono ?_); rintro e w8 ⟨⟨A4, c4, rfl, u9⟩, o9⟩; have m1 := o9.keep0 j1; have m5 := o9.keep0 j5)
                      | (go_at_call 19; (with_reducible refine WA.out.mono ?_); rintro e w7 ⟨⟨A3, c3, rfl, u8⟩, o8⟩; have j1 := o8.keep0 HH1.out; have j5 := o8.keep0 HH5.out))
                    go_wp2_with fail
                    have oT := (((Only.refl [] wr).trans0 o7).drew.trans0 o8 |>.trans0 o9).trans0 o10
                    go_roundw
                    case rel => exact ⟨k, t0, by have := HK.out; omega, by go_num, rfl, (show Fst s'.q (k + 1) (-1) from HK.out ▸ HF.out).head (by have := HK.out; omega) (HK.out ▸ HQ.out), HR.out.only oT (by simp), HW.out.only oT (by simp), hB7.only ((Only.refl [] w6).drew.trans0 o8 |>.trans0 o9 |>.trans0 o10) (by simp) (by simp), HO.out.trans0 oT⟩
                    case measure => simp [intOf]; have := HK.out; omega
                  · have hf' : (0 : Int) ≤ f := by omega
                    clear hf hF
                    go_wp2_with (first
                      | (go_at_call 16; (with_reducible refine OF.out.mono ?_); rintro e w6 ⟨⟨A2, c2, rfl, own2⟩, hB7, o7⟩; have n2 := Nsrc.own' HN.out own2; have n5 := HN5.out.only0 o7; have k1 := o7.keep0 HK1.out; have k5 := o7.keep0 HK5.out))
                    have WA := hide (without_to A2 c2 N M _ m fr HN.out HM'.out HLM.out w6.drew (show Nsrc w6.drew _ _ from n2) (by omega))
                    have WB := hide (fun V (o : Only [] w6.drew V) => without_to A5 c5 N5 M _ m fr HL5.out HM.out HLM.out V ((show Nsrc w6.drew _ _ from n5).only0 o) (by omega))
                    have HH1 := hide k1
                    have HH5 := hide k5
                    have HN2 := hide n2
                    have HN6 := hide n5
                    clear n2 n5 own2
                    go_region_held3 (fun V => V.cell? ⟨b2, 1, none⟩ = some (.int .i64 fr) ∧ V.cell? ⟨b, p, none⟩ = some (.slice A5 N5 c5)) (first | go_keep | exact ⟨q1, q5⟩ | exact ⟨m1, m5⟩ | exact ⟨j1, j5⟩ | exact ⟨k1, k5⟩) (first
                      | (go_at_call 18; (with_reducible refine (ints_same _ _ _ _ M m HLM.out hM16 _ (u8.only0 o9) u9).mono ?_); rintro e w9 ⟨rfl, o10⟩; have q1 := o10.keep0 m1; have q5 := o10.keep0 m5)
                      | (go_at_call 19; (with_reducible refine (WB.out _ o8).mono ?_); rintro e w8 ⟨⟨A4, c4, rfl, u9⟩, o9⟩; have m1 := o9.keep0 j1; have m5 := o9.keep0 j5)
                      | (go_at_call 19; (with_reducible refine WA.out.mono ?_); rintro e w7 ⟨⟨A3, c3, rfl, u8⟩, o8⟩; have j1 := o8.keep0 HH1.out; have j5 := o8.keep0 HH5.out))
                    go_wp2_with fail
                    have oT := (((Only.refl [] wr).trans0 o7).drew.trans0 o8 |>.trans0 o9).trans0 o10
                    go_roundw
                    case rel => exact ⟨k, f, by have := HK.out; omega, by go_num, rfl, HF.out.keep hf', HR.out.only oT (by simp), HW.out.only oT (by simp), hB7.only ((Only.refl [] w6).drew.trans0 o8 |>.trans0 o9 |>.trans0 o10) (by simp) (by simp), HO.out.trans0 oT⟩
                    case measure => simp [intOf]; have := HK.out; omega
              · obtain rfl : p = 0 := by omega
                have HO := hide hO
                have HB := hide hB
                rcases hF.done G1 with ⟨rfl, hn⟩ | ⟨t0, rfl, h1, h2⟩
                · obtain rfl : bz' = false := by rw [← HBZ.out]; exact decide_eq_false (fun h => h hn)
                  clear hF bR hW hB hO
                  go_wp2_with fail
                  go_roundw
                  case rel => exact ⟨i + 1, s', by omega, by go_num, HL2.out, BS.mono (by omega) HB.out, HO.out⟩
                  case measure => simp [intOf]; omega
                · obtain rfl : bz' = true := by rw [← HBZ.out]; exact decide_eq_true h1
                  obtain rfl : fr' = t0 := HFR.out.symm.trans h2
                  have u0 : (0 : Int) ≤ (t0 : Int) := by omega
                  clear hF bR hW hB hO
                  go_wp2_with fail
                  go_roundw
                  case rel => exact ⟨i + 1, s', by omega, by go_num, HL2.out, BS.mono (by omega) HB.out, HO.out⟩
                  case measure => simp [intOf]; omega
          · have d4 : (kd == 4) = false := by simp [h4]
            have hal : Alike t s.q s'.q := by rw [← hs']; exact step_alike Q s kd t pp rb h4
            have HAL := hide hal
            have HBX := hide hbx2
            clear hal hfr hbz hs' hfr' hbz' hbx2
            go_wp2_with (first
              | (go_at_call 14; (with_reducible refine (RV.out _ hB4).mono ?_); rintro e w5 ⟨rfl, hB6, o5⟩)
              | (go_at_call 17; (with_reducible refine (ON.out _ hB3).mono ?_); rintro e w4 ⟨rfl, hB4, o4⟩; have b4 := b3.only o4 HNX.out; have c40 := (b4.cell 0).trans rfl)
              | (go_at_call 14; (with_reducible refine (RU.out _ HBA.out).mono ?_); rintro e w3 ⟨rfl, hB3, o3⟩; have b3 := B2.out.only o3 HNX.out; have c30 := (b3.cell 0).trans rfl; have c31 := (b3.cell 1).trans rfl; have c32 := (b3.cell 2).trans rfl; have c33 := (b3.cell 3).trans rfl))
            have b5 := b4.only o5 HNX.out
            have hW5 := ((HWA.out.only o3 HSX.out).only o4 HSX.out).only o5 HSX.out
            have hO5 := only_in (only_in (only_in HOA.out o3 hgS) o4 hgS) o5 hgS
            obtain ⟨G1, G2, -, -⟩ := hB6.facts
            clear b3 b4 c30 c31 c32 c33 c40 o3 o4 o5 hB3 hB4 ON RU RV HBA
            go_loopw [15, 16, 17] (fun vf vp _ wr => ∃ (p : Nat) (f : Int), p ≤ 31 ∧ vp = .int .i64 p ∧ vf = .int .i64 f ∧ Fst s'.q p f ∧ Blk wr b2 39 #[.int .i64 kd, .int .i64 t, .int .i64 pp, .bool rb] ∧ WasAt wr b s.q 32 ∧ BS wr x g Q s' (30 * i + 9 + 9 + 9) ∧ Only [] w wr) (fun _ vp _ _ => (intOf vp).toNat)
            case atStart => exact ⟨31, -1, by omega, rfl, rfl, Fst.start _, b5, hW5, hB6, hO5⟩
            case round =>
              clear b5 hW5 hB6 hO5
              obtain ⟨p, f, hp, rfl, rfl, hF, bR, hW, hB, hO⟩ := hrel
              by_cases hlt3 : 0 < p
              · obtain ⟨k, hk⟩ : ∃ k, p = k + 1 := ⟨p - 1, by omega⟩
                have HK := hide hk
                have e1 : (0 : Int) < (p : Int) := by omega
                have e2 : IntKind.i64.wrap ((p : Int) - 1) = (k : Int) := by rw [IntWalk.i64_in _ (by omega)]; omega
                have e3 : (0 : Int) ≤ (p : Int) := by omega
                have e4 : (p : Int) < 32 := by omega
                obtain ⟨N, hN⟩ : ∃ N, (s'.q p).length = N := ⟨_, rfl⟩
                have hN16 : N ≤ 16 := hN ▸ G2 p
                have OF := hide (ofN p (by omega) (by omega) N hN wr hB)
                obtain ⟨A5, c5, k5, n5⟩ := hW.get (p := p) (by omega) (by omega)
                obtain ⟨N5, hN5⟩ : ∃ N, (s.q p).length = N := ⟨_, rfl⟩
                rw [hN5] at k5
                have hN5' : N5 ≤ 16 := hN5 ▸ HF2.out p
                obtain ⟨m, hm⟩ : ∃ m, wo t (s.q p) = m := ⟨_, rfl⟩
                have hm' : wo t (s'.q p) = m := (HAL.out _).trans hm
                obtain ⟨M, hM⟩ : ∃ M, m.length = M := ⟨_, rfl⟩
                have hM16 : M ≤ 1000 := by have := wo_le t (s.q p); rw [hm, hM, hN5] at this; omega
                have k1 : wr.cell? ⟨b2, 1, none⟩ = some (.int .i64 t) := (bR.cell 1).trans rfl
                have HN := hide hN
                have HM := hide hm
                have HM' := hide hm'
                have HL5 := hide hN5
                have HLM := hide hM
                have HK1 := hide k1
                have HK5 := hide k5
                have HN5 := hide n5
                have HR := hide bR
                have HW := hide hW
                have HO := hide hO
                have HF := hide hF
                rcases hl : s'.q p with _ | ⟨t0, r⟩
                · have HQ := hide hl
                  obtain rfl : N = 0 := by rw [← hN, hl]; rfl
                  clear hk hl hN hm hm' hN5 hM k1 k5 n5 bR hW hO hF hB
                  go_wp2_with (first
                    | (go_at_call 16; (with_reducible refine OF.out.mono ?_); rintro e w6 ⟨⟨A2, c2, rfl, own2⟩, hB7, o7⟩; have n2 := Nsrc.own' HN.out own2; have n5 := HN5.out.only0 o7; have k1 := o7.keep0 HK1.out; have k5 := o7.keep0 HK5.out))
                  have WA := hide (without_to A2 c2 0 M _ m t HN.out HM'.out HLM.out w6.drew (show Nsrc w6.drew _ _ from n2) (by omega))
                  have WB := hide (fun V (o : Only [] w6.drew V) => without_to A5 c5 N5 M _ m t HL5.out HM.out HLM.out V ((show Nsrc w6.drew _ _ from n5).only0 o) (by omega))
                  have HH1 := hide k1
                  have HH5 := hide k5
                  have HN2 := hide n2
                  have HN6 := hide n5
                  clear n2 n5 own2
                  go_region_held3 (fun V => V.cell? ⟨b2, 1, none⟩ = some (.int .i64 t) ∧ V.cell? ⟨b, p, none⟩ = some (.slice A5 N5 c5)) (first | go_keep | exact ⟨q1, q5⟩ | exact ⟨m1, m5⟩ | exact ⟨j1, j5⟩ | exact ⟨k1, k5⟩) (first
                    | (go_at_call 18; (with_reducible refine (ints_same _ _ _ _ M m HLM.out hM16 _ (u8.only0 o9) u9).mono ?_); rintro e w9 ⟨rfl, o10⟩; have q1 := o10.keep0 m1; have q5 := o10.keep0 m5)
                    | (go_at_call 19; (with_reducible refine (WB.out _ o8).mono ?_); rintro e w8 ⟨⟨A4, c4, rfl, u9⟩, o9⟩; have m1 := o9.keep0 j1; have m5 := o9.keep0 j5)
                    | (go_at_call 19; (with_reducible refine WA.out.mono ?_); rintro e w7 ⟨⟨A3, c3, rfl, u8⟩, o8⟩; have j1 := o8.keep0 HH1.out; have j5 := o8.keep0 HH5.out))
                  go_wp2_with fail
                  have oT := (((Only.refl [] wr).trans0 o7).drew.trans0 o8 |>.trans0 o9).trans0 o10
                  go_roundw
                  case rel => exact ⟨k, f, by have := HK.out; omega, by go_num, rfl, (show Fst s'.q (k + 1) f from HK.out ▸ HF.out).none_ (HK.out ▸ HQ.out), HR.out.only oT (by simp), HW.out.only oT (by simp), hB7.only ((Only.refl [] w6).drew.trans0 o8 |>.trans0 o9 |>.trans0 o10) (by simp) (by simp), HO.out.trans0 oT⟩
                  case measure => simp [intOf]; have := HK.out; omega
                · have HQ := hide hl
                  have d0 : (0 : Int) < (N : Int) := by rw [← hN, hl]; simp
                  clear hk hl hN hm hm' hN5 hM k1 k5 n5 bR hW hO hB
                  by_cases hf : f < 0
                  · obtain rfl := hF.neg hf
                    clear hf hF
                    go_wp2_with (first
                      | (go_at_call 16; (with_reducible refine OF.out.mono ?_); rintro e w6 ⟨⟨A2, c2, rfl, own2⟩, hB7, o7⟩; have n2 := Nsrc.own' HN.out own2; have n5 := HN5.out.only0 o7; have k1 := o7.keep0 HK1.out; have k5 := o7.keep0 HK5.out; obtain ⟨gg, rfl, kh⟩ := (show Nsrc w6 A2 (t0 :: r) from HQ.out ▸ n2).head))
                    have WA := hide (without_to (some ⟨gg, 0, none⟩) c2 N M _ m t HN.out HM'.out HLM.out w6.drew (show Nsrc w6.drew _ _ from n2) (by omega))
                    have WB := hide (fun V (o : Only [] w6.drew V) => without_to A5 c5 N5 M _ m t HL5.out HM.out HLM.out V ((show Nsrc w6.drew _ _ from n5).only0 o) (by omega))
                    have HH1 := hide k1
                    have HH5 := hide k5
                    have HN2 := hide n2
                    have HN6 := hide n5
                    clear n2 n5 own2
                    go_region_held3 (fun V => V.cell? ⟨b2, 1, none⟩ = some (.int .i64 t) ∧ V.cell? ⟨b, p, none⟩ = some (.slice A5 N5 c5)) (first | go_keep | exact ⟨q1, q5⟩ | exact ⟨m1, m5⟩ | exact ⟨j1, j5⟩ | exact ⟨k1, k5⟩) (first
                      | (go_at_call 18; (with_reducible refine (ints_same _ _ _ _ M m HLM.out hM16 _ (u8.only0 o9) u9).mono ?_); rintro e w9 ⟨rfl, o10⟩; have q1 := o10.keep0 m1; have q5 := o10.keep0 m5)
                      | (go_at_call 19; (with_reducible refine (WB.out _ o8).mono ?_); rintro e w8 ⟨⟨A4, c4, rfl, u9⟩, o9⟩; have m1 := o9.keep0 j1; have m5 := o9.keep0 j5)
                      | (go_at_call 19; (with_reducible refine WA.out.mono ?_); rintro e w7 ⟨⟨A3, c3, rfl, u8⟩, o8⟩; have j1 := o8.keep0 HH1.out; have j5 := o8.keep0 HH5.out))
                    go_wp2_with fail
                    have oT := (((Only.refl [] wr).trans0 o7).drew.trans0 o8 |>.trans0 o9).trans0 o10
                    go_roundw
                    case rel => exact ⟨k, t0, by have := HK.out; omega, by go_num, rfl, (show Fst s'.q (k + 1) (-1) from HK.out ▸ HF.out).head (by have := HK.out; omega) (HK.out ▸ HQ.out), HR.out.only oT (by simp), HW.out.only oT (by simp), hB7.only ((Only.refl [] w6).drew.trans0 o8 |>.trans0 o9 |>.trans0 o10) (by simp) (by simp), HO.out.trans0 oT⟩
                    case measure => simp [intOf]; have := HK.out; omega
                  · have hf' : (0 : Int) ≤ f := by omega
                    clear hf hF
                    go_wp2_with (first
                      | (go_at_call 16; (with_reducible refine OF.out.mono ?_); rintro e w6 ⟨⟨A2, c2, rfl, own2⟩, hB7, o7⟩; have n2 := Nsrc.own' HN.out own2; have n5 := HN5.out.only0 o7; have k1 := o7.keep0 HK1.out; have k5 := o7.keep0 HK5.out))
                    have WA := hide (without_to A2 c2 N M _ m t HN.out HM'.out HLM.out w6.drew (show Nsrc w6.drew _ _ from n2) (by omega))
                    have WB := hide (fun V (o : Only [] w6.drew V) => without_to A5 c5 N5 M _ m t HL5.out HM.out HLM.out V ((show Nsrc w6.drew _ _ from n5).only0 o) (by omega))
                    have HH1 := hide k1
                    have HH5 := hide k5
                    have HN2 := hide n2
                    have HN6 := hide n5
                    clear n2 n5 own2
                    go_region_held3 (fun V => V.cell? ⟨b2, 1, none⟩ = some (.int .i64 t) ∧ V.cell? ⟨b, p, none⟩ = some (.slice A5 N5 c5)) (first | go_keep | exact ⟨q1, q5⟩ | exact ⟨m1, m5⟩ | exact ⟨j1, j5⟩ | exact ⟨k1, k5⟩) (first
                      | (go_at_call 18; (with_reducible refine (ints_same _ _ _ _ M m HLM.out hM16 _ (u8.only0 o9) u9).mono ?_); rintro e w9 ⟨rfl, o10⟩; have q1 := o10.keep0 m1; have q5 := o10.keep0 m5)
                      | (go_at_call 19; (with_reducible refine (WB.out _ o8).mono ?_); rintro e w8 ⟨⟨A4, c4, rfl, u9⟩, o9⟩; have m1 := o9.keep0 j1; have m5 := o9.keep0 j5)
                      | (go_at_call 19; (with_reducible refine WA.out.mono ?_); rintro e w7 ⟨⟨A3, c3, rfl, u8⟩, o8⟩; have j1 := o8.keep0 HH1.out; have j5 := o8.keep0 HH5.out))
                    go_wp2_with fail
                    have oT := (((Only.refl [] wr).trans0 o7).drew.trans0 o8 |>.trans0 o9).trans0 o10
                    go_roundw
                    case rel => exact ⟨k, f, by have := HK.out; omega, by go_num, rfl, HF.out.keep hf', HR.out.only oT (by simp), HW.out.only oT (by simp), hB7.only ((Only.refl [] w6).drew.trans0 o8 |>.trans0 o9 |>.trans0 o10) (by simp) (by simp), HO.out.trans0 oT⟩
                    case measure => simp [intOf]; have := HK.out; omega
              · obtain rfl : p = 0 := by omega
                have HO := hide hO
                have HB := hide hB
                rcases hF.done G1 with ⟨rfl, hn⟩ | ⟨t0, rfl, h1, h2⟩
                · obtain rfl : bz' = false := by rw [← HBZ.out]; exact decide_eq_false (fun h => h hn)
                  clear hF bR hW hB hO
                  go_wp2_with fail
                  go_roundw
                  case rel => exact ⟨i + 1, s', by omega, by go_num, HL2.out, BS.mono (by omega) HB.out, HO.out⟩
                  case measure => simp [intOf]; omega
                · obtain rfl : bz' = true := by rw [← HBZ.out]; exact decide_eq_true h1
                  obtain rfl : fr' = t0 := HFR.out.symm.trans h2
                  have u0 : (0 : Int) ≤ (t0 : Int) := by omega
                  clear hF bR hW hB hO
                  go_wp2_with fail
                  go_roundw
                  case rel => exact ⟨i + 1, s', by omega, by go_num, HL2.out, BS.mono (by omega) HB.out, HO.out⟩
                  case measure => simp [intOf]; omega
    · obtain rfl : i = n := by omega
      have HO := hide hO
      clear hB hO
      go_wp2_with (go_at_call 9; refine (known_any _).mono ?_; rintro e w2 ⟨rfl, o2⟩)
      go_ret
      exact ⟨rfl, HO.out.trans0 o2⟩
theorem greatest_walk (Q : Int) (A : Option Addr) (n c : Nat) (w : World) (hst : StepsAt w A n) (hn : n ≤ maxLen) : Calls Try.prog 5 #[.int .i64 Q, .slice A n c] w fun e w' => e = .returned (.bool true) ∧ Only [] w w' := by
  by_cases hQ : 1 ≤ Q ∧ Q ≤ 100
  · by_cases h : n ≤ 200
    · exact greatest_in Q A n c hQ.1 hQ.2 h w hst
    · exact greatest_out Q A n c hQ.1 hQ.2 (by omega) w
  · exact greatest_bad Q A n c hQ w
end Go.Proofs.Ytnndengdlokmbaa
