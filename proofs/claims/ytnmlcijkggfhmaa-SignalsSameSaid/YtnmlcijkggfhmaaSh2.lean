/- Signals: the walk of SignalsSame. Condition: the scripts' cells lie. -/
import Derived.Test.YtnmlcijkggfhmaaSh1
namespace Go.Proofs.Ytnmlcijkggfhmaa
open Go.RowKit Go.Shelf
set_option linter.unusedVariables false
set_option linter.all false
set_option maxRecDepth 20000

theorem HalfS.weak {a0 a1 : Int} {b c : Nat} {W : World} {p : Option Addr} (h : HalfS a0 a1 b W p) (hc : c ≤ b) : HalfS a0 a1 c W p := by
  rcases h with h | ⟨h0, g, mb, h1, h2, h3, h4⟩
  · exact .inl h
  · exact .inr ⟨h0, g, mb, h1, h2, by omega, by omega⟩
theorem PairD.up {k k' b : Nat} {W : World} {p q : Option Addr} {G : List Nat} (h : PairD k b W p q G) (hk : k ≤ k') : PairD k' b W p q G := by
  rcases h with h | ⟨T, S, g, mb, d, L, M, Bs, h1, h2, h3, hS, hD, h4, h5⟩
  · exact .inl h
  · exact .inr ⟨T, S, g, mb, d, L, M, Bs, h1, h2, h3, hS, hD, by omega, h5⟩
theorem HalfR.weak {a0 a1 : Int} {b c : Nat} {W : World} {q : Option Addr} (h : HalfR a0 a1 b W q) (hc : c ≤ b) : HalfR a0 a1 c W q := by
  rcases h with h | ⟨h0, d, h1, h2, h3⟩
  · exact .inl h
  · exact .inr ⟨h0, d, h1, h2, by omega⟩
theorem HalfR.dne {x0 x1 y0 y1 : Int} {c : Nat} {Wa Wb : World} {q1 q2 : Option Addr} (h : HalfR x0 x1 c Wa q1) (h' : HalfR y0 y1 Wa.heap.size Wb q2) : ∀ d1 d2, q1 = some ⟨d1, 0, none⟩ → q2 = some ⟨d2, 0, none⟩ → d1 ≠ d2 := by
  rintro d1 d2 rfl rfl
  rcases h with ⟨_, h⟩ | ⟨_, d, h1, h2, _⟩
  · cases h
  · rcases h' with ⟨_, h⟩ | ⟨_, e, h4, _, h5⟩
    · cases h
    · have := h2.lt
      simp at h1 h4
      omega
theorem two_pairs {x0 x1 y0 y1 : Int} {b : Nat} {W1 W : World} {p1 p2 q1 q2 : Option Addr} (h1 : HalfS x0 x1 b W1 p1) (o1 : Only [] W1 W) (h2 : HalfS y0 y1 W1.heap.size W p2) (h3 : HalfR x0 x1 b W q1) (h4 : HalfR y0 y1 b W q2) (hb : b ≤ W1.heap.size)
    (hdd : ∀ d1 d2, q1 = some ⟨d1, 0, none⟩ → q2 = some ⟨d2, 0, none⟩ → d1 ≠ d2) : ∃ G1 G2, PairD 0 b W p1 q1 G1 ∧ PairD 0 b W p2 q2 G2 ∧ ∀ x ∈ G1, x ∉ G2 := by
  obtain ⟨G1, hp1, _⟩ := PairD.half (h1.only0 o1) h3 (Nat.le_refl _)
  obtain ⟨G2, hp2, _⟩ := PairD.half (h2.weak hb) h4 (Nat.le_refl _)
  refine ⟨G1, G2, hp1, hp2, ?_⟩
  have hp1' := hp1
  have hp2' := hp2
  rcases hp1' with ⟨_, _, rfl⟩ | ⟨T, S, g, mb, d, L, M, Bs, rfl, rfl, rfl, hS, hD, _⟩
  · simp
  rcases hp2' with ⟨_, _, rfl⟩ | ⟨T', S', g', mb', d', L', M', Cs, rfl, rfl, rfl, hS', hD', _⟩
  · simp
  have hd := hdd d d' rfl rfl
  obtain ⟨cs, hb1, _⟩ := hS.cells
  obtain ⟨cs', hb1', _⟩ := hS'.cells
  obtain ⟨e1, e2, _⟩ := hD.ne hS'
  obtain ⟨e3, e4, _⟩ := hD'.ne hS
  have e5 : mb ≠ g' := by
    obtain ⟨f, n, hM, _⟩ := hS.map
    exact hM.ne_blk hb1'
  have e6 : mb' ≠ g := by
    obtain ⟨f, n, hM, _⟩ := hS'.map
    exact hM.ne_blk hb1
  rcases h1 with ⟨_, h⟩ | ⟨_, g1, mb1, hg1, hs1, _⟩
  · cases h
  rcases h2 with ⟨_, h⟩ | ⟨_, g2, mb2, hg2, hs2, hl1, hl2⟩
  · cases h
  simp at hg1 hg2
  subst hg1 hg2
  -- one map a signal
  have m1 : mb = mb1 := by
    obtain ⟨c1, k1, hC1⟩ := hS.cells
    obtain ⟨c2, k2, hC2⟩ := (hs1.only0 o1).cells
    have := ((k1.cell 35).trans hC1.q).symm.trans ((k2.cell 35).trans hC2.q)
    simpa using this
  have m2 : mb' = mb2 := by
    obtain ⟨c1, k1, hC1⟩ := hS'.cells
    obtain ⟨c2, k2, hC2⟩ := hs2.cells
    have := ((k1.cell 35).trans hC1.q).symm.trans ((k2.cell 35).trans hC2.q)
    simpa using this
  have l1 := hs1.lt
  subst m1 m2
  intro x hx
  simp only [List.mem_cons, List.not_mem_nil, or_false, not_or] at hx ⊢
  omega
set_option maxHeartbeats 16000000 in
theorem same_walk (x0 x1 y0 y1 : Int) (A : Option Addr) (n c : Nat) (A2 : Option Addr) (n2 c2 : Nat) (w : World) (hA : StepsAt w A n) (hB : StepsAt w A2 n2) (hn : n ≤ maxLen) (hn2 : n2 ≤ maxLen) :
    Calls Try.prog 5 #[.agg #[.int .i64 x0, .int .i64 x1, .int .i64 y0, .int .i64 y1], .slice A n c, .slice A2 n2 c2] w fun e w' => e = .returned (.bool true) ∧ Only [] w w' := by
  have HA := hide hA
  have HB := hide hB
  have NA := hide (fun W => new_half x0 x1 W)
  have NB := hide (fun W => new_half y0 y1 W)
  have RA := hide (fun W => rnew_half x0 x1 W)
  have RB := hide (fun W => rnew_half y0 y1 W)
  clear hA hB
  unfold maxLen at hn hn2
  have bb := Blk.new w 49 #[.int .i64 x0, .int .i64 x1, .int .i64 y0, .int .i64 y1]
  go_enter Try.func5, Try.ntmps5
  go_wp2_with (first
    | (go_at_call 8; (with_reducible refine (NA.out _).mono ?_); rintro e w1 ⟨p1, c1, rfl, s1, o1⟩; have S1 := hide (s1.weak (show w.heap.size ≤ _ by simp)); have O1 := hide (((Only.refl [] w).alloc (.cells #[.int .i64 x0, .int .i64 x1, .int .i64 y0, .int .i64 y1] 49)).trans0 o1); have b1 := bb.only o1 (by simp); have u0 := b1.cell 0; have u1 := b1.cell 1; have u2 := b1.cell 2; have u3 := b1.cell 3; clear o1 s1)
    | (go_at_call 8; (with_reducible refine (NB.out _).mono ?_); rintro e w2 ⟨p2, c2, rfl, s2, o2⟩; have S2 := hide s2; have O12 := hide o2; have O2 := hide (O1.out.trans0 o2); have b2 := b1.only o2 (by simp); have K := hide (fun V (o : Only [] w2 V) => (by have hb := b2.only o (by simp); exact ⟨hb.cell 0, hb.cell 1, hb.cell 2, hb.cell 3⟩ : V.cell? ⟨w.heap.size, 0, none⟩ = some (.int .i64 x0) ∧ V.cell? ⟨w.heap.size, 1, none⟩ = some (.int .i64 x1) ∧ V.cell? ⟨w.heap.size, 2, none⟩ = some (.int .i64 y0) ∧ V.cell? ⟨w.heap.size, 3, none⟩ = some (.int .i64 y1))); clear o2 s2 b2 b1 u0 u1 u2 u3))
  clear bb
  refine wp_region_held_drew (S := (fun V => Only [] w2 V)) (by kernel_rfl) ((Only.refl _ _).drew) (fun hHeld => ?_)
  refine wpAnyH_take (i := 0) (oi := ⟨some 36, _, _, _, _, _⟩) (v := ?vnw1) rfl (by kernel_rfl) (by kernel_rfl) (by kernel_rfl) (fun _ _ _ h => h) (Or.inl ⟨by rfl, ?hynw1⟩) (by assumption) ?restnw1
  case hynw1 => (intro V hSw; (try dsimp only at hSw); go_simp; first | done | (with_reducible rfl))
  try simp only [Act.put, List.setIfInBounds_toArray, List.set_cons_zero, List.set_cons_succ]
  refine wpAnyH_take (i := 1) (oi := ⟨some 37, _, _, _, _, _⟩) (v := ?vnw2) rfl (by kernel_rfl) (by kernel_rfl) (by kernel_rfl) (fun _ _ _ h => h) (Or.inl ⟨by rfl, ?hynw2⟩) (by assumption) ?restnw2
  case hynw2 => (intro V hSw; (try dsimp only at hSw); go_simp; first | done | (with_reducible rfl))
  try simp only [Act.put, List.setIfInBounds_toArray, List.set_cons_zero, List.set_cons_succ]
  refine wpAnyH_take (i := 2) (oi := ⟨some 38, _, _, _, _, _⟩) (v := ?vnw3) rfl (by kernel_rfl) (by kernel_rfl) (by kernel_rfl) (fun _ _ _ h => h) (Or.inl ⟨by rfl, ?hynw3⟩) (by assumption) ?restnw3
  case hynw3 => (intro V hSw; (try dsimp only at hSw); obtain ⟨z0, z1, z2, z3⟩ := K.out V hSw; go_simp; first | done | (with_reducible rfl))
  try simp only [Act.put, List.setIfInBounds_toArray, List.set_cons_zero, List.set_cons_succ]
  refine wpAnyH_take (i := 3) (oi := ⟨some 39, _, _, _, _, _⟩) (v := ?vnw4) rfl (by kernel_rfl) (by kernel_rfl) (by kernel_rfl) (fun _ _ _ h => h) (Or.inl ⟨by rfl, ?hynw4⟩) (by assumption) ?restnw4
  case hynw4 => (intro V hSw; (try dsimp only at hSw); go_simp; first | done | (with_reducible rfl))
  try simp only [Act.put, List.setIfInBounds_toArray, List.set_cons_zero, List.set_cons_succ]
  refine wpAnyH_take (i := 4) (oi := ⟨some 40, _, _, _, _, _⟩) (v := ?vnw5) rfl (by kernel_rfl) (by kernel_rfl) (by kernel_rfl) (fun _ _ _ h => h) (Or.inl ⟨by rfl, ?hynw5⟩) (by assumption) ?restnw5
  case hynw5 => (intro V hSw; (try dsimp only at hSw); go_simp; first | done | (with_reducible rfl))
  try simp only [Act.put, List.setIfInBounds_toArray, List.set_cons_zero, List.set_cons_succ]
  refine wpAnyH_take (i := 5) (oi := ⟨some 41, _, _, _, _, _⟩) (v := ?vnw6) rfl (by kernel_rfl) (by kernel_rfl) (by kernel_rfl) (fun _ _ _ h => h) (Or.inl ⟨by rfl, ?hynw6⟩) (by assumption) ?restnw6
  case hynw6 => (intro V hSw; (try dsimp only at hSw); obtain ⟨z0, z1, z2, z3⟩ := K.out V hSw; go_simp; first | done | (with_reducible rfl))
  try simp only [Act.put, List.setIfInBounds_toArray, List.set_cons_zero, List.set_cons_succ]
  refine wpAnyH_take (i := 7) (oi := ⟨some 43, _, _, _, _, _⟩) (v := ?vnw7) rfl (by kernel_rfl) (by kernel_rfl) (by kernel_rfl) (fun _ _ _ h => h) (Or.inl ⟨by rfl, ?hynw7⟩) (by assumption) ?restnw7
  case hynw7 => (intro V hSw; (try dsimp only at hSw); go_simp; first | done | (with_reducible rfl))
  try simp only [Act.put, List.setIfInBounds_toArray, List.set_cons_zero, List.set_cons_succ]
  refine wpAnyH_take (i := 8) (oi := ⟨some 44, _, _, _, _, _⟩) (v := ?vnw8) rfl (by kernel_rfl) (by kernel_rfl) (by kernel_rfl) (fun _ _ _ h => h) (Or.inl ⟨by rfl, ?hynw8⟩) (by assumption) ?restnw8
  case hynw8 => (intro V hSw; (try dsimp only at hSw); go_simp; first | done | (with_reducible rfl))
  try simp only [Act.put, List.setIfInBounds_toArray, List.set_cons_zero, List.set_cons_succ]
  refine wpAnyH_take (i := 9) (oi := ⟨some 45, _, _, _, _, _⟩) (v := ?vnw9) rfl (by kernel_rfl) (by kernel_rfl) (by kernel_rfl) (fun _ _ _ h => h) (Or.inl ⟨by rfl, ?hynw9⟩) (by assumption) ?restnw9
  case hynw9 => (intro V hSw; (try dsimp only at hSw); obtain ⟨z0, z1, z2, z3⟩ := K.out V hSw; go_simp; first | done | (with_reducible rfl))
  try simp only [Act.put, List.setIfInBounds_toArray, List.set_cons_zero, List.set_cons_succ]
  refine wpAnyH_take (i := 10) (oi := ⟨some 46, _, _, _, _, _⟩) (v := ?vnw10) rfl (by kernel_rfl) (by kernel_rfl) (by kernel_rfl) (fun _ _ _ h => h) (Or.inl ⟨by rfl, ?hynw10⟩) (by assumption) ?restnw10
  case hynw10 => (intro V hSw; (try dsimp only at hSw); go_simp; first | done | (with_reducible rfl))
  try simp only [Act.put, List.setIfInBounds_toArray, List.set_cons_zero, List.set_cons_succ]
  refine wpAnyH_take (i := 11) (oi := ⟨some 47, _, _, _, _, _⟩) (v := ?vnw11) rfl (by kernel_rfl) (by kernel_rfl) (by kernel_rfl) (fun _ _ _ h => h) (Or.inl ⟨by rfl, ?hynw11⟩) (by assumption) ?restnw11
  case hynw11 => (intro V hSw; (try dsimp only at hSw); go_simp; first | done | (with_reducible rfl))
  try simp only [Act.put, List.setIfInBounds_toArray, List.set_cons_zero, List.set_cons_succ]
  refine wpAnyH_take (i := 12) (oi := ⟨some 48, _, _, _, _, _⟩) (v := ?vnw12) rfl (by kernel_rfl) (by kernel_rfl) (by kernel_rfl) (fun _ _ _ h => h) (Or.inl ⟨by rfl, ?hynw12⟩) (by assumption) ?restnw12
  case hynw12 => (intro V hSw; (try dsimp only at hSw); obtain ⟨z0, z1, z2, z3⟩ := K.out V hSw; go_simp; first | done | (with_reducible rfl))
  try simp only [Act.put, List.setIfInBounds_toArray, List.set_cons_zero, List.set_cons_succ]
  refine wpAnyH_ready (rs := [6]) (by kernel_rfl) (by simp) ?_
  refine AllReadyH.cons (o := ⟨some 42, _, _, _, _, _⟩) rfl (fun K hK => ?_) (AllReadyH.nil)
  rw [if_pos (by rfl)]
  go_simp
  (with_reducible refine (RA.out _).mono ?_)
  rintro e wa ⟨q1, rfl, hra, oa⟩
  have OA := hide (hHeld.trans0 oa)
  have HRA := hide hra
  clear hra
  try dsimp only
  refine hK.out _ _ (OA.out) (fun hHeld => ?_)
  clear hK K
  try simp only [Act.put, List.setIfInBounds_toArray, List.set_cons_zero, List.set_cons_succ]
  refine wpAnyH_ready (rs := [13]) (by kernel_rfl) (by simp) ?_
  refine AllReadyH.cons (o := ⟨some 49, _, _, _, _, _⟩) rfl (fun K hK => ?_) (AllReadyH.nil)
  rw [if_pos (by rfl)]
  go_simp
  (with_reducible refine (RB.out _).mono ?_)
  rintro e wb ⟨q2, rfl, hrb, ob⟩
  have OB := hide (hHeld.trans0 ob)
  have HRB := hide hrb
  clear hrb
  try dsimp only
  refine hK.out _ _ (OB.out) (fun hHeld => ?_)
  clear hK K
  try simp only [Act.put, List.setIfInBounds_toArray, List.set_cons_zero, List.set_cons_succ]
  refine wpAnyH_take (i := 14) (oi := ⟨some 11, _, _, _, _, _⟩) (v := ?vnw13) rfl (by kernel_rfl) (by kernel_rfl) (by kernel_rfl) (fun _ _ _ h => h) (Or.inl ⟨by rfl, ?hynw13⟩) (by assumption) ?restnw13
  case hynw13 => (intro V hSw; (try dsimp only at hSw); go_simp; first | done | (with_reducible rfl))
  try simp only [Act.put, List.setIfInBounds_toArray, List.set_cons_zero, List.set_cons_succ]
  refine wpAnyH_take (i := 15) (oi := ⟨some 12, _, _, _, _, _⟩) (v := ?vnw14) rfl (by kernel_rfl) (by kernel_rfl) (by kernel_rfl) (fun _ _ _ h => h) (Or.inl ⟨by rfl, ?hynw14⟩) (by assumption) ?restnw14
  case hynw14 => (intro V hSw; (try dsimp only at hSw); go_simp; first | done | (with_reducible rfl))
  try simp only [Act.put, List.setIfInBounds_toArray, List.set_cons_zero, List.set_cons_succ]
  refine wpAnyH_done (by kernel_rfl) ?_ _
  go_wp2_with fail
  obtain ⟨G1, G2, hp1, hp2, hdis⟩ := two_pairs (b := w.heap.size) S1.out (O12.out.trans0 OB.out) (S2.out.only0 OB.out) ((HRA.out.only0 ob).weak (by have := O2.out.size; simp; omega)) (HRB.out.weak (by have := OA.out.size; have := O2.out.size; omega)) (by have := O1.out.size; omega) (HRA.out.dne HRB.out)
  have P1 := hide hp1
  have P2 := hide hp2
  have DIS1 := hide hdis
  have DIS2 := hide (fun x hx hq => hdis x hq hx)
  have OW := hide (O2.out.trans0 OB.out)
  clear hp1 hp2 hdis S1 S2 O12 O1 O2 K NA NB RA RB
  go_wp2_with fail
  go_loopw [7, 11, 13, 14] (fun vs vq vok vi wr => ∃ (k : Nat) (p1 q1 : Option Addr) (G1 : List Nat), vs = .pointer p1 ∧ vq = .pointer q1 ∧ vok = .bool true ∧ vi = .int .i64 k ∧ k ≤ 60 ∧ Hid (PairD k w.heap.size wr p1 q1 G1) ∧ Hid (PairD 0 w.heap.size wr p2 q2 G2) ∧ Hid (∀ x ∈ G1, x ∉ G2) ∧ Hid (∀ x ∈ G2, x ∉ G1) ∧ Hid (Only [] w wr)) (fun _ _ _ vi _ => 60 - (intOf vi).toNat)
  case atStart => exact ⟨0, p1, q1, G1, rfl, rfl, rfl, rfl, Nat.zero_le _, P1, P2, DIS1, DIS2, OW⟩
  case round =>
    clear P1 P2 DIS1 DIS2 OW
    obtain ⟨k, p1, q1, G1, rfl, rfl, rfl, rfl, hk, P1, P2, DIS1, DIS2, OW⟩ := hrel
    by_cases hgo : k < n ∧ k < 60
    · have j0 : (0 : Int) ≤ (k : Int) := by omega
      have j1 : (k : Int) < (n : Int) := by omega
      have j2 : (k : Int) < 60 := by omega
      rcases P1.out with ⟨rfl, rfl, rfl⟩ | ⟨T, S, g, mb, d, L, M, Bs, rfl, rfl, hG, hS, hD, hLk, hg1, hg2, hg3⟩
      · clear hgo
        have P1 := hide (PairD.up P1.out (show k ≤ 60 by omega))
        clear hk
        go_wp2_with fail
        go_loopw [9, 12, 13, 15] (fun vs vq vok vi wr => ∃ (k : Nat) (p2 q2 : Option Addr) (G2 : List Nat), vs = .pointer p2 ∧ vq = .pointer q2 ∧ vok = .bool true ∧ vi = .int .i64 k ∧ k ≤ 60 ∧ Hid (PairD k w.heap.size wr p2 q2 G2) ∧ Hid (PairD 60 w.heap.size wr none none ([] : List Nat)) ∧ Hid (∀ x ∈ G2, x ∉ ([] : List Nat)) ∧ Hid (∀ x ∈ ([] : List Nat), x ∉ G2) ∧ Hid (Only [] w wr)) (fun _ _ _ vi _ => 60 - (intOf vi).toNat)
        case atStart => exact ⟨0, p2, q2, G2, rfl, rfl, rfl, rfl, Nat.zero_le _, P2, P1, DIS2, DIS1, OW⟩
        case round =>
          clear P2 P1 DIS1 DIS2 OW
          obtain ⟨k, p2, q2, G2, rfl, rfl, rfl, rfl, hk, P2, P1, DIS2, DIS1, OW⟩ := hrel
          by_cases hgo : k < n2 ∧ k < 60
          · have j0 : (0 : Int) ≤ (k : Int) := by omega
            have j1 : (k : Int) < (n2 : Int) := by omega
            have j2 : (k : Int) < 60 := by omega
            rcases P2.out with ⟨rfl, rfl, rfl⟩ | ⟨T, S, g, mb, d, L, M, Bs, rfl, rfl, hG, hS, hD, hLk, hg1, hg2, hg3⟩
            · clear hgo
              obtain ⟨cc, f1, f2, f3⟩ := PairD.fin P1.out P2.out DIS1.out
              have F1 := hide f1
              have F2 := hide f2
              have F3 := hide f3
              clear f1 f2 f3
              go_wp2_with (first
                | (go_at_call 17; (with_reducible refine (F1.out _ (Only.refl _ _)).mono ?_); rintro e w6 ⟨rfl, o6⟩; have O6 := hide o6; clear F1 o6)
                | (go_at_call 18; (with_reducible refine (F2.out _ O6.out).mono ?_); rintro e w7 ⟨rfl, o7⟩; have O7 := hide (O6.out.trans0 o7); clear F2 o7)
                | (go_at_call 17; (with_reducible refine (F3.out _ O7.out).mono ?_); rintro e w8 ⟨rfl, o8⟩; have O8 := hide (O7.out.trans0 o8); clear F3 o8)
                | (go_at_call 7; refine (known_any _).mono ?_; rintro e w9 ⟨rfl, o9⟩; have O9 := hide (O8.out.trans0 o9); clear o9))
              go_ret
              exact ⟨rfl, OW.out.trans0 O9.out⟩
            · subst hG
              obtain ⟨a, kd, t, m, v, s, rfl, hs, e0, e1, e2, e3, e4⟩ := HB.out k hgo.1
              have c0 := OW.out.keep0 e0
              have c1 := OW.out.keep0 e1
              have c2 := OW.out.keep0 e2
              have c3 := OW.out.keep0 e3
              have c4 := OW.out.keep0 e4
              have DO := do_spec hS hD (by omega) kd t m v s hs
              have hlen := hide (stepL_len T S L kd t m v s)
              unfold ptr stpC at DO
              have DO := hide DO
              have HS := hide hS
              have HD := hide hD
              have HLk := hide hLk
              have HGS := hide (And.intro hg1 (And.intro hg2 hg3))
              clear hgo e0 e1 e2 e3 e4 hS hD hLk hg1 hg2 hg3 P2
              go_wp2_with (go_at_call 15; (with_reducible refine DO.out.mono ?_); rintro e w3 ⟨g', mb', Bs', rfl, S', D', O', hg'⟩; unfold ptr; have S3 := hide S'; have D3 := hide D'; have O3 := hide O'; have HG' := hide hg'; clear S' D' O' hg')
              go_roundw
              case rel =>
                have hsz := OW.out.size
                have hgs := HGS.out
                have hlt := PairD.lt P1.out
                have hdd := DIS2.out
                have hge : w.heap.size ≤ g' ∧ w.heap.size ≤ mb' := by
                  rcases HG'.out with ⟨rfl, rfl⟩ | ⟨h1, h2⟩ <;> omega
                have hnew : ∀ x ∈ [g', mb', d], x ∉ ([] : List Nat) := by
                  intro x hx hq
                  have hl := hlt x hq
                  simp at hx
                  rcases HG'.out with ⟨rfl, rfl⟩ | ⟨h1, h2⟩
                  · exact hdd x (by simp; exact hx) hq
                  · rcases hx with rfl | rfl | rfl
                    · omega
                    · omega
                    · exact hdd _ (by simp) hq
                refine ⟨k + 1, some ⟨g', 0, none⟩, some ⟨d, 0, none⟩, [g', mb', d], rfl, rfl, rfl, by go_num, by omega, hide (.inr ⟨T, S, g', mb', d, _, _, Bs', rfl, rfl, rfl, S3.out, D3.out, by have := hlen.out; have := HLk.out; omega, hge.1, hge.2, hgs.2.2⟩), hide (PairD.far P1.out HS.out HD.out O3.out hdd), hide hnew, hide (fun x hx hq => hnew x hq hx), hide (OW.out.trans O3.out (fun x hx => .inr (by simp at hx; rcases hx with rfl | rfl | rfl <;> omega)))⟩
              case measure => simp [intOf]; omega
          · rcases (show ((k : Int) < (n2 : Int) ∧ ¬ ((k : Int) < 60)) ∨ ¬ ((k : Int) < (n2 : Int)) from by omega) with ⟨hA1, hA2⟩ | hA1
            all_goals (
              clear hgo
              obtain ⟨cc, f1, f2, f3⟩ := PairD.fin P1.out P2.out DIS1.out
              have F1 := hide f1
              have F2 := hide f2
              have F3 := hide f3
              clear f1 f2 f3
              go_wp2_with (first
                | (go_at_call 17; (with_reducible refine (F1.out _ (Only.refl _ _)).mono ?_); rintro e w6 ⟨rfl, o6⟩; have O6 := hide o6; clear F1 o6)
                | (go_at_call 18; (with_reducible refine (F2.out _ O6.out).mono ?_); rintro e w7 ⟨rfl, o7⟩; have O7 := hide (O6.out.trans0 o7); clear F2 o7)
                | (go_at_call 17; (with_reducible refine (F3.out _ O7.out).mono ?_); rintro e w8 ⟨rfl, o8⟩; have O8 := hide (O7.out.trans0 o8); clear F3 o8)
                | (go_at_call 7; refine (known_any _).mono ?_; rintro e w9 ⟨rfl, o9⟩; have O9 := hide (O8.out.trans0 o9); clear o9))
              go_ret
              exact ⟨rfl, OW.out.trans0 O9.out⟩)
      · subst hG
        obtain ⟨a, kd, t, m, v, s, rfl, hs, e0, e1, e2, e3, e4⟩ := HA.out k hgo.1
        have c0 := OW.out.keep0 e0
        have c1 := OW.out.keep0 e1
        have c2 := OW.out.keep0 e2
        have c3 := OW.out.keep0 e3
        have c4 := OW.out.keep0 e4
        have DO := do_spec hS hD (by omega) kd t m v s hs
        have hlen := hide (stepL_len T S L kd t m v s)
        unfold ptr stpC at DO
        have DO := hide DO
        have HS := hide hS
        have HD := hide hD
        have HLk := hide hLk
        have HGS := hide (And.intro hg1 (And.intro hg2 hg3))
        clear hgo e0 e1 e2 e3 e4 hS hD hLk hg1 hg2 hg3 P1
        go_wp2_with (go_at_call 15; (with_reducible refine DO.out.mono ?_); rintro e w3 ⟨g', mb', Bs', rfl, S', D', O', hg'⟩; unfold ptr; have S3 := hide S'; have D3 := hide D'; have O3 := hide O'; have HG' := hide hg'; clear S' D' O' hg')
        go_roundw
        case rel =>
          have hsz := OW.out.size
          have hgs := HGS.out
          have hlt := PairD.lt P2.out
          have hdd := DIS1.out
          have hge : w.heap.size ≤ g' ∧ w.heap.size ≤ mb' := by
            rcases HG'.out with ⟨rfl, rfl⟩ | ⟨h1, h2⟩ <;> omega
          have hnew : ∀ x ∈ [g', mb', d], x ∉ G2 := by
            intro x hx hq
            have hl := hlt x hq
            simp at hx
            rcases HG'.out with ⟨rfl, rfl⟩ | ⟨h1, h2⟩
            · exact hdd x (by simp; exact hx) hq
            · rcases hx with rfl | rfl | rfl
              · omega
              · omega
              · exact hdd _ (by simp) hq
          refine ⟨k + 1, some ⟨g', 0, none⟩, some ⟨d, 0, none⟩, [g', mb', d], rfl, rfl, rfl, by go_num, by omega, hide (.inr ⟨T, S, g', mb', d, _, _, Bs', rfl, rfl, rfl, S3.out, D3.out, by have := hlen.out; have := HLk.out; omega, hge.1, hge.2, hgs.2.2⟩), hide (PairD.far P2.out HS.out HD.out O3.out hdd), hide hnew, hide (fun x hx hq => hnew x hq hx), hide (OW.out.trans O3.out (fun x hx => .inr (by simp at hx; rcases hx with rfl | rfl | rfl <;> omega)))⟩
        case measure => simp [intOf]; omega
    · rcases (show ((k : Int) < (n : Int) ∧ ¬ ((k : Int) < 60)) ∨ ¬ ((k : Int) < (n : Int)) from by omega) with ⟨hA1, hA2⟩ | hA1
      all_goals (
        clear hgo
        have P1 := hide (PairD.up P1.out (show k ≤ 60 by omega))
        clear hk
        go_wp2_with fail
        go_loopw [9, 12, 13, 15] (fun vs vq vok vi wr => ∃ (k : Nat) (p2 q2 : Option Addr) (G2 : List Nat), vs = .pointer p2 ∧ vq = .pointer q2 ∧ vok = .bool true ∧ vi = .int .i64 k ∧ k ≤ 60 ∧ Hid (PairD k w.heap.size wr p2 q2 G2) ∧ Hid (PairD 60 w.heap.size wr p1 q1 G1) ∧ Hid (∀ x ∈ G2, x ∉ G1) ∧ Hid (∀ x ∈ G1, x ∉ G2) ∧ Hid (Only [] w wr)) (fun _ _ _ vi _ => 60 - (intOf vi).toNat)
        case atStart => exact ⟨0, p2, q2, G2, rfl, rfl, rfl, rfl, Nat.zero_le _, P2, P1, DIS2, DIS1, OW⟩
        case round =>
          clear P2 P1 DIS1 DIS2 OW
          obtain ⟨k, p2, q2, G2, rfl, rfl, rfl, rfl, hk, P2, P1, DIS2, DIS1, OW⟩ := hrel
          by_cases hgo : k < n2 ∧ k < 60
          · have j0 : (0 : Int) ≤ (k : Int) := by omega
            have j1 : (k : Int) < (n2 : Int) := by omega
            have j2 : (k : Int) < 60 := by omega
            rcases P2.out with ⟨rfl, rfl, rfl⟩ | ⟨T, S, g, mb, d, L, M, Bs, rfl, rfl, hG, hS, hD, hLk, hg1, hg2, hg3⟩
            · clear hgo
              obtain ⟨cc, f1, f2, f3⟩ := PairD.fin P1.out P2.out DIS1.out
              have F1 := hide f1
              have F2 := hide f2
              have F3 := hide f3
              clear f1 f2 f3
              go_wp2_with (first
                | (go_at_call 17; (with_reducible refine (F1.out _ (Only.refl _ _)).mono ?_); rintro e w6 ⟨rfl, o6⟩; have O6 := hide o6; clear F1 o6)
                | (go_at_call 18; (with_reducible refine (F2.out _ O6.out).mono ?_); rintro e w7 ⟨rfl, o7⟩; have O7 := hide (O6.out.trans0 o7); clear F2 o7)
                | (go_at_call 17; (with_reducible refine (F3.out _ O7.out).mono ?_); rintro e w8 ⟨rfl, o8⟩; have O8 := hide (O7.out.trans0 o8); clear F3 o8)
                | (go_at_call 7; refine (known_any _).mono ?_; rintro e w9 ⟨rfl, o9⟩; have O9 := hide (O8.out.trans0 o9); clear o9))
              go_ret
              exact ⟨rfl, OW.out.trans0 O9.out⟩
            · subst hG
              obtain ⟨a, kd, t, m, v, s, rfl, hs, e0, e1, e2, e3, e4⟩ := HB.out k hgo.1
              have c0 := OW.out.keep0 e0
              have c1 := OW.out.keep0 e1
              have c2 := OW.out.keep0 e2
              have c3 := OW.out.keep0 e3
              have c4 := OW.out.keep0 e4
              have DO := do_spec hS hD (by omega) kd t m v s hs
              have hlen := hide (stepL_len T S L kd t m v s)
              unfold ptr stpC at DO
              have DO := hide DO
              have HS := hide hS
              have HD := hide hD
              have HLk := hide hLk
              have HGS := hide (And.intro hg1 (And.intro hg2 hg3))
              clear hgo e0 e1 e2 e3 e4 hS hD hLk hg1 hg2 hg3 P2
              go_wp2_with (go_at_call 15; (with_reducible refine DO.out.mono ?_); rintro e w3 ⟨g', mb', Bs', rfl, S', D', O', hg'⟩; unfold ptr; have S3 := hide S'; have D3 := hide D'; have O3 := hide O'; have HG' := hide hg'; clear S' D' O' hg')
              go_roundw
              case rel =>
                have hsz := OW.out.size
                have hgs := HGS.out
                have hlt := PairD.lt P1.out
                have hdd := DIS2.out
                have hge : w.heap.size ≤ g' ∧ w.heap.size ≤ mb' := by
                  rcases HG'.out with ⟨rfl, rfl⟩ | ⟨h1, h2⟩ <;> omega
                have hnew : ∀ x ∈ [g', mb', d], x ∉ G1 := by
                  intro x hx hq
                  have hl := hlt x hq
                  simp at hx
                  rcases HG'.out with ⟨rfl, rfl⟩ | ⟨h1, h2⟩
                  · exact hdd x (by simp; exact hx) hq
                  · rcases hx with rfl | rfl | rfl
                    · omega
                    · omega
                    · exact hdd _ (by simp) hq
                refine ⟨k + 1, some ⟨g', 0, none⟩, some ⟨d, 0, none⟩, [g', mb', d], rfl, rfl, rfl, by go_num, by omega, hide (.inr ⟨T, S, g', mb', d, _, _, Bs', rfl, rfl, rfl, S3.out, D3.out, by have := hlen.out; have := HLk.out; omega, hge.1, hge.2, hgs.2.2⟩), hide (PairD.far P1.out HS.out HD.out O3.out hdd), hide hnew, hide (fun x hx hq => hnew x hq hx), hide (OW.out.trans O3.out (fun x hx => .inr (by simp at hx; rcases hx with rfl | rfl | rfl <;> omega)))⟩
              case measure => simp [intOf]; omega
          · rcases (show ((k : Int) < (n2 : Int) ∧ ¬ ((k : Int) < 60)) ∨ ¬ ((k : Int) < (n2 : Int)) from by omega) with ⟨hA1, hA2⟩ | hA1
            all_goals (
              clear hgo
              obtain ⟨cc, f1, f2, f3⟩ := PairD.fin P1.out P2.out DIS1.out
              have F1 := hide f1
              have F2 := hide f2
              have F3 := hide f3
              clear f1 f2 f3
              go_wp2_with (first
                | (go_at_call 17; (with_reducible refine (F1.out _ (Only.refl _ _)).mono ?_); rintro e w6 ⟨rfl, o6⟩; have O6 := hide o6; clear F1 o6)
                | (go_at_call 18; (with_reducible refine (F2.out _ O6.out).mono ?_); rintro e w7 ⟨rfl, o7⟩; have O7 := hide (O6.out.trans0 o7); clear F2 o7)
                | (go_at_call 17; (with_reducible refine (F3.out _ O7.out).mono ?_); rintro e w8 ⟨rfl, o8⟩; have O8 := hide (O7.out.trans0 o8); clear F3 o8)
                | (go_at_call 7; refine (known_any _).mono ?_; rintro e w9 ⟨rfl, o9⟩; have O9 := hide (O8.out.trans0 o9); clear o9))
              go_ret
              exact ⟨rfl, OW.out.trans0 O9.out⟩))
end Go.Proofs.Ytnmlcijkggfhmaa
