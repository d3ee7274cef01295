/- Wire: the walk of WireWrites. Condition: the things' cells lie; bytes of at most 2^20. -/
import Derived.Test.YtdaeaepfbnlaeaaWi14
import Derived.Test.YtdaeaepfbnlaeaaWi16
import Derived.Deep.RegionHeld3
import Derived.BigQuiet
namespace Go.Proofs.Ytdaeaepfbnlaeaa
open Go.RowKit
set_option linter.unusedVariables false
set_option linter.all false
set_option maxRecDepth 20000
attribute [local go_sem ↓] app_hide
/-- A cut under a name that the walk's simp does not open. -/
def SliceH (t : TypeId) (x : Value) (lo hi mx : Option Value) : Sem Value := Instr.sliceAt t x lo hi mx
theorem slice_hide (t : TypeId) (x : Value) (lo hi mx : Option Value) : Instr.sliceAt t x lo hi mx = SliceH t x lo hi mx := rfl
attribute [local go_sem ↓] slice_hide

/-- A fresh slice of bytes, its length a name. -/
def FreshN (w : World) (bs : List UInt8) (n : Nat) (e : Ending) (w' : World) : Prop := Only [] w w' ∧ ∃ (g c : Nat), e = .returned (.slice (some ⟨g, 0, none⟩) n c) ∧ w'.ownsRow w.heap.size 5 1 (.slice (some ⟨g, 0, none⟩) n c) n (U8s bs)
theorem Fresh.toN {f : FuncId} {args : Array Value} {w : World} {bs : List UInt8} {n : Nat} (hn : bs.length = n) (h : Calls Try.prog f args w (Fresh w bs)) : Calls Try.prog f args w (FreshN w bs n) := by
  subst hn
  exact h
/-- A predicate of worlds that says more serves from here on. -/
theorem wpAnyH_strong {P : Program} {md : Region.Mode} {ops : Array Oper} {Q : Exit → Act → World → Prop} {S S' : World → Prop} (h : ∀ w, S' w → S w) : ∀ (fuel : Nat) (listed : Array Bool) (a : Act) (w : World), wpAnyH P md ops Q S' fuel listed a w → wpAnyH P md ops Q S fuel listed a w
  | 0, _, _, _, k => k
  | fuel + 1, _, _, _, k => ⟨k.1, fun i hi => wpOp_mono (fun a' w' h' => ⟨h _ h'.1, wpAnyH_strong h fuel _ a' w' h'.2⟩) (k.2 i hi)⟩
theorem size5 : (Try.prog.info? 5).map (·.size) = some 1 := by kernel_rfl
theorem add_77 (ds : List UInt8) : (⟨ds.toArray⟩ : ByteArray) ++ ⟨#[119]⟩ = ⟨(ds ++ [119]).toArray⟩ := by
  apply ByteArray.ext
  simp
theorem src_cut {w : World} {base n c kk : Nat} {e : TypeId} {A : Option Addr} {bs es : List UInt8} (h : w.ownsRow base e 1 (.slice A n c) n (U8s bs)) (hk : kk + es.length ≤ c) (hes : ∀ j, j < es.length → bs[kk + j]? = es[j]?) :
    Src w (if c = kk then A else A.map (·.add (kk * 1))) es := fun hp => by
  rw [if_neg (by omega)]
  have h0 := hes 0 hp
  rw [List.getElem?_eq_getElem hp] at h0
  have hb := (List.getElem?_eq_some_iff.1 h0).1
  obtain ⟨ad, rfl, hc⟩ := Src.own h (by omega)
  refine ⟨ad.add (kk * 1), rfl, fun j u hj => ?_⟩
  rw [add_of_add, Nat.mul_one]
  refine hc _ u ?_
  have hjl := (List.getElem?_eq_some_iff.1 hj).1
  rw [length_U8s] at hjl
  rw [U8s_get] at hj ⊢
  rw [hes j hjl]
  exact hj
theorem flat_mid {L : List (List UInt8)} {i n : Nat} {es : List UInt8} (h : (L.take (i + 1)).flatten = (L.take i).flatten ++ es) (hn : L.flatten.length = n) : ∀ j, j < es.length → L.flatten[(L.take i).flatten.length + j]? = es[j]? := by
  intro j hj
  have e : L.flatten = (L.take i).flatten ++ (es ++ (L.drop (i + 1)).flatten) := by
    rw [← List.append_assoc, ← h, ← List.flatten_append, List.take_append_drop]
  rw [e, List.getElem?_append_right (by omega), Nat.add_sub_cancel_left, List.getElem?_append_left hj]
set_option maxHeartbeats 16000000 in
theorem writes_any (N : Nat) (S : Int) (F : Bool) (A0 : Option Addr) (n0 c0 : Nat) (ds : List UInt8) (Pa : Option Addr) (m c : Nat) (L : List (List UInt8)) (w : World) (hN : N < 2 ^ 64) (s0 : -9223372036854775808 ≤ S) (s1 : S ≤ 9223372036854775807)
    (hl0 : ds.length = n0) (hn0 : n0 ≤ 1048576) (hs0 : Src w A0 ds) (hl : L.length = m) (hm : m ≤ 1048576) (hP : Pcs w Pa L) (hsum : L.flatten.length ≤ 1048576) :
    Calls Try.prog 3 #[.agg #[.int .u64 N, .int .i64 S, .bool F, .slice A0 n0 c0], .slice Pa m c] w fun e w' => e = .returned (.bool true) ∧ Only [] w w' := by
  have bX := Blk.new w 25 #[.int .u64 N, .int .i64 S, .bool F, .slice A0 n0 c0]
  have oX : Only [] w (w.alloc (.cells #[.int .u64 N, .int .i64 S, .bool F, .slice A0 n0 c0] 25)) := (Only.refl [] w).alloc _
  obtain ⟨W1, hW⟩ : ∃ W1, w.alloc (.cells #[.int .u64 N, .int .i64 S, .bool F, .slice A0 n0 c0] 25) = W1 := ⟨_, rfl⟩
  obtain ⟨X, hX⟩ : ∃ X, w.heap.size = X := ⟨_, rfl⟩
  rw [hX] at bX
  rw [hW] at bX oX
  have k3 : W1.cell? ⟨X, 3, none⟩ = some (.slice A0 n0 c0) := (bX.cell 3).trans rfl
  have hXs : X < W1.heap.size := bX.lt
  obtain ⟨A2, c2, w2, e2, r2, o2, -, -⟩ := run_app_src W1.heap.size none 0 0 [] A0 n0 c0 ds W1 (World.ownsRow_nil ..) hl0 (hs0.only0 oX) (by omega) (Nat.le_refl _)
  rw [Nat.zero_add, List.nil_append] at r2
  rw [Nat.zero_add] at e2
  have o2 : Only [] W1 w2 := o2.mono (by simp [blkOf])
  obtain ⟨gO, cO, w3, e3, r3, o3, -⟩ := app_one W1.heap.size A2 n0 c2 ds 119 119 rfl w2 r2 (by omega) o2.size
  have oW3 : Only [] W1 w3 := o2.trans o3 (fun k hk => .inr (own_ge r2 k hk).1)
  obtain ⟨cO1, cO2⟩ := own_cap r3
  have j3 := oW3.keep0 k3
  have SO := hide (Src.own r3)
  have HX := hide (bX.only oW3 (by simp))
  have HO3 := hide (oX.trans0 oW3)
  have HS0 := hide (hs0.only0 (oX.trans0 oW3))
  have HP := hide (hP.only0 (oX.trans0 oW3))
  have HL := hide hl
  have HL0 := hide hl0
  have SO2 := hide (show Src w3 (some ⟨gO, 0, none⟩) ds from fun hp => by
    obtain ⟨ad, h1, h2⟩ := SO.out (by simp)
    exact ⟨ad, h1, fun j u hj => h2 j u (by rw [← u8s_append, List.getElem?_append_left (List.getElem?_eq_some_iff.1 hj).1]; exact hj)⟩)
  obtain ⟨nn, hnn⟩ : ∃ nn, (numF n0 ++ ds).length = nn := ⟨_, rfl⟩
  obtain ⟨nN, hnN⟩ : ∃ nN, (numF N).length = nN := ⟨_, rfl⟩
  obtain ⟨nJ, hnJ⟩ : ∃ nJ, L.flatten.length = nJ := ⟨_, rfl⟩
  have ln1 := numF_len10 n0 (by omega)
  have ln2 := numF_len10 N hN
  have ln0 : nn ≤ 1048600 := by rw [← hnn, List.length_append]; omega
  have lnN : nN ≤ 10 := by omega
  have lnJ : nJ ≤ 1048576 := by omega
  have B1 := hide (fun V (o : Only [] w3.drew V) => Fresh.toN hnn (bytes_any (some ⟨gO, 0, none⟩) n0 cO ds V HL0.out (by omega) ((show Src w3.drew _ _ from SO2.out).only0 o)))
  have N1 := hide (fun V => Fresh.toN hnN (number_any N hN V))
  have HNn := hide hnn
  have HNN := hide hnN
  have HNJ := hide hnJ
  clear hnn hnN hnJ ln1 ln2
  clear r2 r3 o2 o3 oW3 oX bX hs0 hP hl hl0 hXs
  have q0 : (0 : Int) ≤ (n0 : Int) := by omega
  have q1 : (n0 : Int) ≤ (cO : Int) := by omega
  have CUT := fun W => run_cut_h (P := Try.prog) (s := 1) Try.underlying23 size5 gO 0 (n0 + 1) cO .i64 (n0 : Int) n0 rfl (by omega) W
  simp only [slice_hide] at CUT
  go_enter Try.func3, Try.ntmps3
  go_wp2_with fail
  have oA : Only [] w3 w3.drew := (Only.refl [] w3).drew
  go_region_held3 (fun V => V.cell? ⟨X, 3, none⟩ = some (.slice A0 n0 c0)) (first | go_keep | exact z2 | exact z1 | exact j3) (first
    | (go_at_call 8; (with_reducible refine (B1.out _ o4).mono ?_); rintro e w5 ⟨o5, gb, cb, rfl, rb⟩; have z2 := o5.keep0 z1)
    | (go_at_call 8; (with_reducible refine (B1.out _ (Only.refl _ _)).mono ?_); rintro e w4 ⟨o4, ga, ca, rfl, ra⟩; have z1 := o4.keep0 (HX.out.cell 3)))
  go_wp2_with fail
  have y0 := ((oA.trans0 o4).trans0 o5).keep0 (show w3.cell? ⟨X, 0, none⟩ = some (.int .u64 N) from (HX.out.cell 0).trans rfl)
  go_region_held3 (fun V => V.cell? ⟨X, 0, none⟩ = some (.int .u64 N)) (first | go_keep | exact y2 | exact y1 | exact y0) (first
    | (go_at_call 9; have chk := o6; (with_reducible refine (N1.out _).mono ?_); rintro e w7 ⟨o7, gm, cm, rfl, rm⟩; have y2 := o7.keep0 y1)
    | (go_at_call 9; (with_reducible refine (N1.out _).mono ?_); rintro e w6 ⟨o6, gn, cn, rfl, rn⟩; have y1 := o6.keep0 y0))
  have ga1 := own_ge ra ga (by simp [blkOf])
  have gb1 := own_ge rb gb (by simp [blkOf])
  have gn1 := own_ge rn gn (by simp [blkOf])
  have gm1 := own_ge rm gm (by simp [blkOf])
  have sz4 := o4.size
  have sz5 := o5.size
  have sz6 := o6.size
  have sz7 := o7.size
  simp only [World.size_drew] at ga1 gb1 gn1 gm1 sz4 sz5 sz6 sz7
  have OAB := hide (((((oA.trans0 o4).trans0 o5).drew).trans0 o6).trans0 o7 : Only [] w3 w7)
  have RA := hide (own_only' ra ((o5.drew.trans0 o6).trans0 o7) (by simp))
  have RB := hide (own_only' rb (((Only.refl [] w5).drew.trans0 o6).trans0 o7) (by simp))
  have RN := hide (own_only' rn o7 (by simp))
  have RM := hide rm
  clear CUT ra rb rn rm z1 z2 y0 y1 y2 o4 o5 o6 o7 oA j3 e2 e3 k3 B1 N1
  go_wp2_with fail
  go_loopw [10, 11] (fun vo vi wr => ∃ (j : Nat) (A : Option Addr) (co : Nat) (done : List UInt8), vo = .slice A done.length co ∧ vi = .int .i64 j ∧ j ≤ m ∧ Only [] w7 wr ∧ Hid (done = (L.take j).flatten) ∧ Hid (wr.ownsRow w7.heap.size 5 1 (.slice A done.length co) done.length (U8s done))) (fun _ vi _ => m - (intOf vi).toNat)
  case atStart => exact ⟨0, none, 0, [], rfl, rfl, Nat.zero_le _, Only.refl _ _, hide rfl, hide (World.ownsRow_nil ..)⟩
  case round =>
    obtain ⟨j, A, co, done, rfl, rfl, hj, hO, hD, hR⟩ := hrel
    by_cases hlt : j < m
    · obtain ⟨es, hes⟩ : ∃ es, L[j]? = some es := ⟨_, List.getElem?_eq_getElem (by rw [HL.out]; exact hlt)⟩
      obtain ⟨a, A', c', rfl, hcell, hs⟩ := (HP.out.only0 (OAB.out.trans0 hO)) j es hes
      have hstep := flatten_take_succ L j es hes
      have hle := flatten_take_le L (j + 1)
      rw [hstep, ← hD.out, List.length_append] at hle
      obtain ⟨A2, c2, w8, hrun, hrow2, o8, -, -⟩ := run_app_src w7.heap.size A _ co done A' es.length c' es wr hR.out rfl hs (by omega) hO.size
      have hO2 := hide (hO.trans o8 (fun x hx => .inr (own_ge hR.out x hx).1))
      have HR2 := hide hrow2
      have HS := hide hstep
      clear hrow2 hs hstep hes o8 hR
      have i1 : (j : Int) < (m : Int) := by omega
      have i0 : (0 : Int) ≤ (j : Int) := by omega
      go_wp2_with fail
      go_roundw
      case rel =>
        refine ⟨j + 1, A2, c2, done ++ es, ?_, by go_num, by omega, hO2.out, hide (by rw [HS.out, hD.out]), ?_⟩
        · rw [List.length_append]
        · rw [List.length_append]; exact HR2
      case measure => simp [intOf]; omega
    · obtain rfl : j = m := by omega
      have e : L.take j = L := by rw [List.take_of_length_le (by rw [HL.out]; exact Nat.le_refl _)]
      obtain rfl : done = L.flatten := by rw [hD.out, e]
      have JO := hide (Fresh.toN HNJ.out (join_any Pa j c L wr HL.out (by omega) (HP.out.only0 (OAB.out.trans0 hO)) (by omega)))
      have gA1 := own_ge hR.out
      have RL := hR.out
      rw [HNJ.out] at RL ⊢
      have RL := hide RL
      have sz8 := hO.size
      have HO := hide hO
      clear hO hD e
      go_wp2_with (go_at_call 10; (with_reducible refine JO.out.mono ?_); rintro e w8 ⟨o8, gj, cj, rfl, rj⟩)
      have szj := own_ge rj gj (by simp [blkOf])
      have gA2 : ∀ q ∈ blkOf A, q ≠ ga ∧ q ≠ gn ∧ q ≠ gj := fun q hq => by have := gA1 q hq; omega
      have RJ := hide rj
      have RL8 := hide (own_only' RL.out o8 (by simp))
      have O8 := hide (HO.out.trans0 o8)
      have O38 := hide (OAB.out.trans0 O8.out)
      have HX8 := hide (HX.out.only O38.out (by simp))
      have S08 := hide (HS0.out.only0 O38.out)
      have CA := hide (fun V (o : Only [] w8 V) => run_str_any (some ⟨ga, 0, none⟩) nn ca (numF n0 ++ ds) V HNn.out ((Src.own (own_only' RA.out O8.out (by simp))).only0 o))
      have CN := hide (fun V (o : Only [] w8 V) => run_str_any (some ⟨gn, 0, none⟩) nN cn (numF N) V HNN.out ((Src.own (own_only' RN.out O8.out (by simp))).only0 o))
      have CL := hide (fun V (o : Only [] w8 V) => run_str_any A nJ co L.flatten V HNJ.out ((Src.own RL8.out).only0 o))
      have CJ := hide (fun V (o : Only [] w8 V) => run_str_any (some ⟨gj, 0, none⟩) nJ cj L.flatten V HNJ.out ((Src.own RJ.out).only0 o))
      have X0 := hide (fun V (o : Only [] w8 V) => o.keep0 (show w8.cell? ⟨X, 0, none⟩ = some (.int .u64 N) from (HX8.out.cell 0).trans rfl))
      have X1 := hide (fun V (o : Only [] w8 V) => o.keep0 (show w8.cell? ⟨X, 1, none⟩ = some (.int .i64 S) from (HX8.out.cell 1).trans rfl))
      have X2 := hide (fun V (o : Only [] w8 V) => o.keep0 (show w8.cell? ⟨X, 2, none⟩ = some (.bool F) from (HX8.out.cell 2).trans rfl))
      have X3 := hide (fun V (o : Only [] w8 V) => o.keep0 (show w8.cell? ⟨X, 3, none⟩ = some (.slice A0 n0 c0) from (HX8.out.cell 3).trans rfl))
      obtain ⟨fb, hfb⟩ : ∃ fb : List UInt8, [if F then (1 : UInt8) else 0] = fb := ⟨_, rfl⟩
      have hfb1 : fb.length = 1 := by rw [← hfb]; rfl
      obtain ⟨nS, hnS⟩ : ∃ nS, (numF (zig S)).length = nS := ⟨_, rfl⟩
      have HNS := hide hnS
      have D11 := hide (fun V (o : Only [] w8 V) => Fresh.toN HNn.out (rbytes_any A0 n0 c0 ds V HL0.out (by omega) (S08.out.only0 o)))
      have D12 := hide (fun V => Fresh.toN HNN.out (rnumber_any N hN V))
      have D13 := hide (fun V => Fresh.toN HNS.out (signed_any S s0 s1 V))
      have D14 := hide (fun V => Fresh.toN HNS.out (rsigned_any S s0 s1 V))
      have D15 := hide (fun V => Fresh.toN (n := 1) hfb1 (hfb ▸ flag_any F V))
      have D16 := hide (fun V => Fresh.toN (n := 1) hfb1 (hfb ▸ rflag_any F V))
      have HFB := hide hfb1
      clear rj hnS o8 RL hfb hfb1
      refine wp_region_held_drew (S := (fun V => Only [] w8 V)) (by kernel_rfl) (Only.refl [] w8).drew (fun hHeld => ?_)
      refine wpAnyH_take (i := 0) (oi := ⟨some 52, _, _, _, _, _⟩) (v := ?va0) rfl (by kernel_rfl) (by kernel_rfl) (by kernel_rfl) (fun _ _ _ h => h) (Or.inl ⟨by rfl, ?hya0⟩) (by assumption) ?resta0
      case hya0 => (intro V hSw; (try dsimp only at hSw); go_simp; first | done | (with_reducible rfl))
      try simp only [Act.put, List.setIfInBounds_toArray, List.set_cons_zero, List.set_cons_succ]
      refine wpAnyH_take (i := 1) (oi := ⟨some 53, _, _, _, _, _⟩) (v := ?va1) rfl (by kernel_rfl) (by kernel_rfl) (by kernel_rfl) (fun _ _ _ h => h) (Or.inl ⟨by rfl, ?hya1⟩) (by assumption) ?resta1
      case hya1 => (intro V hSw; (try dsimp only at hSw); have z := CA.out V ((Only.refl [] w8).trans0 hSw); go_simp; first | done | (with_reducible rfl))
      try simp only [Act.put, List.setIfInBounds_toArray, List.set_cons_zero, List.set_cons_succ]
      refine wpAnyH_take (i := 2) (oi := ⟨some 54, _, _, _, _, _⟩) (v := ?va2) rfl (by kernel_rfl) (by kernel_rfl) (by kernel_rfl) (fun _ _ _ h => h) (Or.inl ⟨by rfl, ?hya2⟩) (by assumption) ?resta2
      case hya2 => (intro V hSw; (try dsimp only at hSw); go_simp; first | done | (with_reducible rfl))
      try simp only [Act.put, List.setIfInBounds_toArray, List.set_cons_zero, List.set_cons_succ]
      refine wpAnyH_take (i := 3) (oi := ⟨some 55, _, _, _, _, _⟩) (v := ?va3) rfl (by kernel_rfl) (by kernel_rfl) (by kernel_rfl) (fun _ _ _ h => h) (Or.inl ⟨by rfl, ?hya3⟩) (by assumption) ?resta3
      case hya3 => (intro V hSw; (try dsimp only at hSw); have z := X3.out V ((Only.refl [] w8).trans0 hSw); go_simp; first | done | (with_reducible rfl))
      try simp only [Act.put, List.setIfInBounds_toArray, List.set_cons_zero, List.set_cons_succ]
      refine wpAnyH_ready (rs := [4]) (by kernel_rfl) (by simp) ?_
      refine AllReadyH.cons (o := ⟨some 56, _, _, _, _, _⟩) rfl (fun K hK => ?_) AllReadyH.nil
      rw [if_pos (by rfl)]
      go_simp
      (with_reducible refine (D11.out _ ((Only.refl [] w8).trans0 hHeld)).mono ?_)
      rintro e wa4 ⟨oa4, ga4, ca4, rfl, ra4⟩
      have Ca4 := hide (fun V (o : Only [] wa4 V) => run_str_any (some ⟨ga4, 0, none⟩) nn ca4 (numF n0 ++ ds) V HNn.out ((Src.own ra4).only0 o))
      clear ra4
      try dsimp only
      have Ta4 := hide (Only.trans0 hHeld oa4)
      refine hK.out _ _ Ta4.out (fun _ => ?_)
      clear hK K hHeld oa4
      have hHeld := Only.refl [] wa4
      refine wpAnyH_strong (S' := fun V => Only [] wa4 V) (fun V o => Ta4.out.trans0 o) _ _ _ _ ?_
      try simp only [Act.put, List.setIfInBounds_toArray, List.set_cons_zero, List.set_cons_succ]
      refine wpAnyH_take (i := 5) (oi := ⟨some 57, _, _, _, _, _⟩) (v := ?va5) rfl (by kernel_rfl) (by kernel_rfl) (by kernel_rfl) (fun _ _ _ h => h) (Or.inl ⟨by rfl, ?hya5⟩) (by assumption) ?resta5
      case hya5 => (intro V hSw; (try dsimp only at hSw); have z := Ca4.out V hSw; go_simp; first | done | (with_reducible rfl))
      try simp only [Act.put, List.setIfInBounds_toArray, List.set_cons_zero, List.set_cons_succ]
      refine wpAnyH_take (i := 6) (oi := ⟨some 58, _, _, _, _, _⟩) (v := ?va6) rfl (by kernel_rfl) (by kernel_rfl) (by kernel_rfl) (fun _ _ _ h => h) (Or.inl ⟨by rfl, ?hya6⟩) (by assumption) ?resta6
      case hya6 => (intro V hSw; (try dsimp only at hSw); go_simp; first | done | (with_reducible rfl))
      try simp only [Act.put, List.setIfInBounds_toArray, List.set_cons_zero, List.set_cons_succ]
      refine wpAnyH_take (i := 7) (oi := ⟨some 59, _, _, _, _, _⟩) (v := ?va7) rfl (by kernel_rfl) (by kernel_rfl) (by kernel_rfl) (fun _ _ _ h => h) (Or.inl ⟨by rfl, ?hya7⟩) (by assumption) ?resta7
      case hya7 => (intro V hSw; (try dsimp only at hSw); go_simp; first | done | (with_reducible rfl))
      try simp only [Act.put, List.setIfInBounds_toArray, List.set_cons_zero, List.set_cons_succ]
      refine wpAnyH_take (i := 8) (oi := ⟨some 60, _, _, _, _, _⟩) (v := ?va8) rfl (by kernel_rfl) (by kernel_rfl) (by kernel_rfl) (fun _ _ _ h => h) (Or.inl ⟨by rfl, ?hya8⟩) (by assumption) ?resta8
      case hya8 => (intro V hSw; (try dsimp only at hSw); go_simp; first | done | (with_reducible rfl))
      try simp only [Act.put, List.setIfInBounds_toArray, List.set_cons_zero, List.set_cons_succ]
      refine wpAnyH_take (i := 9) (oi := ⟨some 61, _, _, _, _, _⟩) (v := ?va9) rfl (by kernel_rfl) (by kernel_rfl) (by kernel_rfl) (fun _ _ _ h => h) (Or.inl ⟨by rfl, ?hya9⟩) (by assumption) ?resta9
      case hya9 => (intro V hSw; (try dsimp only at hSw); have z := CN.out V (Ta4.out.trans0 hSw); go_simp; first | done | (with_reducible rfl))
      try simp only [Act.put, List.setIfInBounds_toArray, List.set_cons_zero, List.set_cons_succ]
      refine wpAnyH_take (i := 10) (oi := ⟨some 62, _, _, _, _, _⟩) (v := ?va10) rfl (by kernel_rfl) (by kernel_rfl) (by kernel_rfl) (fun _ _ _ h => h) (Or.inl ⟨by rfl, ?hya10⟩) (by assumption) ?resta10
      case hya10 => (intro V hSw; (try dsimp only at hSw); go_simp; first | done | (with_reducible rfl))
      try simp only [Act.put, List.setIfInBounds_toArray, List.set_cons_zero, List.set_cons_succ]
      refine wpAnyH_take (i := 11) (oi := ⟨some 63, _, _, _, _, _⟩) (v := ?va11) rfl (by kernel_rfl) (by kernel_rfl) (by kernel_rfl) (fun _ _ _ h => h) (Or.inl ⟨by rfl, ?hya11⟩) (by assumption) ?resta11
      case hya11 => (intro V hSw; (try dsimp only at hSw); have z := X0.out V (Ta4.out.trans0 hSw); go_simp; first | done | (with_reducible rfl))
      try simp only [Act.put, List.setIfInBounds_toArray, List.set_cons_zero, List.set_cons_succ]
      refine wpAnyH_ready (rs := [12]) (by kernel_rfl) (by simp) ?_
      refine AllReadyH.cons (o := ⟨some 64, _, _, _, _, _⟩) rfl (fun K hK => ?_) AllReadyH.nil
      rw [if_pos (by rfl)]
      go_simp
      (with_reducible refine (D12.out _).mono ?_)
      rintro e wa12 ⟨oa12, ga12, ca12, rfl, ra12⟩
      have Ca12 := hide (fun V (o : Only [] wa12 V) => run_str_any (some ⟨ga12, 0, none⟩) nN ca12 (numF N) V HNN.out ((Src.own ra12).only0 o))
      clear ra12
      try dsimp only
      have Ta12 := hide (Only.trans0 hHeld oa12)
      refine hK.out _ _ Ta12.out (fun _ => ?_)
      clear hK K hHeld oa12
      have hHeld := Only.refl [] wa12
      refine wpAnyH_strong (S' := fun V => Only [] wa12 V) (fun V o => Ta12.out.trans0 o) _ _ _ _ ?_
      try simp only [Act.put, List.setIfInBounds_toArray, List.set_cons_zero, List.set_cons_succ]
      refine wpAnyH_take (i := 13) (oi := ⟨some 65, _, _, _, _, _⟩) (v := ?va13) rfl (by kernel_rfl) (by kernel_rfl) (by kernel_rfl) (fun _ _ _ h => h) (Or.inl ⟨by rfl, ?hya13⟩) (by assumption) ?resta13
      case hya13 => (intro V hSw; (try dsimp only at hSw); have z := Ca12.out V hSw; go_simp; first | done | (with_reducible rfl))
      try simp only [Act.put, List.setIfInBounds_toArray, List.set_cons_zero, List.set_cons_succ]
      refine wpAnyH_take (i := 14) (oi := ⟨some 66, _, _, _, _, _⟩) (v := ?va14) rfl (by kernel_rfl) (by kernel_rfl) (by kernel_rfl) (fun _ _ _ h => h) (Or.inl ⟨by rfl, ?hya14⟩) (by assumption) ?resta14
      case hya14 => (intro V hSw; (try dsimp only at hSw); go_simp; first | done | (with_reducible rfl))
      try simp only [Act.put, List.setIfInBounds_toArray, List.set_cons_zero, List.set_cons_succ]
      refine wpAnyH_take (i := 15) (oi := ⟨some 67, _, _, _, _, _⟩) (v := ?va15) rfl (by kernel_rfl) (by kernel_rfl) (by kernel_rfl) (fun _ _ _ h => h) (Or.inl ⟨by rfl, ?hya15⟩) (by assumption) ?resta15
      case hya15 => (intro V hSw; (try dsimp only at hSw); go_simp; first | done | (with_reducible rfl))
      try simp only [Act.put, List.setIfInBounds_toArray, List.set_cons_zero, List.set_cons_succ]
      refine wpAnyH_take (i := 16) (oi := ⟨some 68, _, _, _, _, _⟩) (v := ?va16) rfl (by kernel_rfl) (by kernel_rfl) (by kernel_rfl) (fun _ _ _ h => h) (Or.inl ⟨by rfl, ?hya16⟩) (by assumption) ?resta16
      case hya16 => (intro V hSw; (try dsimp only at hSw); go_simp; first | done | (with_reducible rfl))
      try simp only [Act.put, List.setIfInBounds_toArray, List.set_cons_zero, List.set_cons_succ]
      refine wpAnyH_take (i := 17) (oi := ⟨some 69, _, _, _, _, _⟩) (v := ?va17) rfl (by kernel_rfl) (by kernel_rfl) (by kernel_rfl) (fun _ _ _ h => h) (Or.inl ⟨by rfl, ?hya17⟩) (by assumption) ?resta17
      case hya17 => (intro V hSw; (try dsimp only at hSw); go_simp; first | done | (with_reducible rfl))
      try simp only [Act.put, List.setIfInBounds_toArray, List.set_cons_zero, List.set_cons_succ]
      refine wpAnyH_take (i := 18) (oi := ⟨some 70, _, _, _, _, _⟩) (v := ?va18) rfl (by kernel_rfl) (by kernel_rfl) (by kernel_rfl) (fun _ _ _ h => h) (Or.inl ⟨by rfl, ?hya18⟩) (by assumption) ?resta18
      case hya18 => (intro V hSw; (try dsimp only at hSw); have z := X1.out V ((Ta4.out.trans0 Ta12.out).trans0 hSw); go_simp; first | done | (with_reducible rfl))
      try simp only [Act.put, List.setIfInBounds_toArray, List.set_cons_zero, List.set_cons_succ]
      refine wpAnyH_take (i := 21) (oi := ⟨some 73, _, _, _, _, _⟩) (v := ?va21) rfl (by kernel_rfl) (by kernel_rfl) (by kernel_rfl) (fun _ _ _ h => h) (Or.inl ⟨by rfl, ?hya21⟩) (by assumption) ?resta21
      case hya21 => (intro V hSw; (try dsimp only at hSw); go_simp; first | done | (with_reducible rfl))
      try simp only [Act.put, List.setIfInBounds_toArray, List.set_cons_zero, List.set_cons_succ]
      refine wpAnyH_take (i := 22) (oi := ⟨some 74, _, _, _, _, _⟩) (v := ?va22) rfl (by kernel_rfl) (by kernel_rfl) (by kernel_rfl) (fun _ _ _ h => h) (Or.inl ⟨by rfl, ?hya22⟩) (by assumption) ?resta22
      case hya22 => (intro V hSw; (try dsimp only at hSw); have z := X1.out V ((Ta4.out.trans0 Ta12.out).trans0 hSw); go_simp; first | done | (with_reducible rfl))
      try simp only [Act.put, List.setIfInBounds_toArray, List.set_cons_zero, List.set_cons_succ]
      refine wpAnyH_ready (rs := [19]) (by kernel_rfl) (by simp) ?_
      refine AllReadyH.cons (o := ⟨some 71, _, _, _, _, _⟩) rfl (fun K hK => ?_) AllReadyH.nil
      rw [if_pos (by rfl)]
      go_simp
      (with_reducible refine (D13.out _).mono ?_)
      rintro e wa19 ⟨oa19, ga19, ca19, rfl, ra19⟩
      have Ca19 := hide (fun V (o : Only [] wa19 V) => run_str_any (some ⟨ga19, 0, none⟩) nS ca19 (numF (zig S)) V HNS.out ((Src.own ra19).only0 o))
      clear ra19
      try dsimp only
      have Ta19 := hide (Only.trans0 hHeld oa19)
      refine hK.out _ _ Ta19.out (fun _ => ?_)
      clear hK K hHeld oa19
      have hHeld := Only.refl [] wa19
      refine wpAnyH_strong (S' := fun V => Only [] wa19 V) (fun V o => Ta19.out.trans0 o) _ _ _ _ ?_
      try simp only [Act.put, List.setIfInBounds_toArray, List.set_cons_zero, List.set_cons_succ]
      refine wpAnyH_take (i := 20) (oi := ⟨some 72, _, _, _, _, _⟩) (v := ?va20) rfl (by kernel_rfl) (by kernel_rfl) (by kernel_rfl) (fun _ _ _ h => h) (Or.inl ⟨by rfl, ?hya20⟩) (by assumption) ?resta20
      case hya20 => (intro V hSw; (try dsimp only at hSw); have z := Ca19.out V hSw; go_simp; first | done | (with_reducible rfl))
      try simp only [Act.put, List.setIfInBounds_toArray, List.set_cons_zero, List.set_cons_succ]
      refine wpAnyH_ready (rs := [23]) (by kernel_rfl) (by simp) ?_
      refine AllReadyH.cons (o := ⟨some 75, _, _, _, _, _⟩) rfl (fun K hK => ?_) AllReadyH.nil
      rw [if_pos (by rfl)]
      go_simp
      (with_reducible refine (D14.out _).mono ?_)
      rintro e wa23 ⟨oa23, ga23, ca23, rfl, ra23⟩
      have Ca23 := hide (fun V (o : Only [] wa23 V) => run_str_any (some ⟨ga23, 0, none⟩) nS ca23 (numF (zig S)) V HNS.out ((Src.own ra23).only0 o))
      clear ra23
      try dsimp only
      have Ta23 := hide (Only.trans0 hHeld oa23)
      refine hK.out _ _ Ta23.out (fun _ => ?_)
      clear hK K hHeld oa23
      have hHeld := Only.refl [] wa23
      refine wpAnyH_strong (S' := fun V => Only [] wa23 V) (fun V o => Ta23.out.trans0 o) _ _ _ _ ?_
      try simp only [Act.put, List.setIfInBounds_toArray, List.set_cons_zero, List.set_cons_succ]
      refine wpAnyH_take (i := 24) (oi := ⟨some 76, _, _, _, _, _⟩) (v := ?va24) rfl (by kernel_rfl) (by kernel_rfl) (by kernel_rfl) (fun _ _ _ h => h) (Or.inl ⟨by rfl, ?hya24⟩) (by assumption) ?resta24
      case hya24 => (intro V hSw; (try dsimp only at hSw); have z := Ca23.out V hSw; go_simp; first | done | (with_reducible rfl))
      try simp only [Act.put, List.setIfInBounds_toArray, List.set_cons_zero, List.set_cons_succ]
      refine wpAnyH_take (i := 25) (oi := ⟨some 77, _, _, _, _, _⟩) (v := ?va25) rfl (by kernel_rfl) (by kernel_rfl) (by kernel_rfl) (fun _ _ _ h => h) (Or.inl ⟨by rfl, ?hya25⟩) (by assumption) ?resta25
      case hya25 => (intro V hSw; (try dsimp only at hSw); go_simp; first | done | (with_reducible rfl))
      try simp only [Act.put, List.setIfInBounds_toArray, List.set_cons_zero, List.set_cons_succ]
      refine wpAnyH_take (i := 26) (oi := ⟨some 78, _, _, _, _, _⟩) (v := ?va26) rfl (by kernel_rfl) (by kernel_rfl) (by kernel_rfl) (fun _ _ _ h => h) (Or.inl ⟨by rfl, ?hya26⟩) (by assumption) ?resta26
      case hya26 => (intro V hSw; (try dsimp only at hSw); go_simp; first | done | (with_reducible rfl))
      try simp only [Act.put, List.setIfInBounds_toArray, List.set_cons_zero, List.set_cons_succ]
      refine wpAnyH_take (i := 27) (oi := ⟨some 79, _, _, _, _, _⟩) (v := ?va27) rfl (by kernel_rfl) (by kernel_rfl) (by kernel_rfl) (fun _ _ _ h => h) (Or.inl ⟨by rfl, ?hya27⟩) (by assumption) ?resta27
      case hya27 => (intro V hSw; (try dsimp only at hSw); go_simp; first | done | (with_reducible rfl))
      try simp only [Act.put, List.setIfInBounds_toArray, List.set_cons_zero, List.set_cons_succ]
      refine wpAnyH_take (i := 28) (oi := ⟨some 80, _, _, _, _, _⟩) (v := ?va28) rfl (by kernel_rfl) (by kernel_rfl) (by kernel_rfl) (fun _ _ _ h => h) (Or.inl ⟨by rfl, ?hya28⟩) (by assumption) ?resta28
      case hya28 => (intro V hSw; (try dsimp only at hSw); go_simp; first | done | (with_reducible rfl))
      try simp only [Act.put, List.setIfInBounds_toArray, List.set_cons_zero, List.set_cons_succ]
      refine wpAnyH_take (i := 29) (oi := ⟨some 81, _, _, _, _, _⟩) (v := ?va29) rfl (by kernel_rfl) (by kernel_rfl) (by kernel_rfl) (fun _ _ _ h => h) (Or.inl ⟨by rfl, ?hya29⟩) (by assumption) ?resta29
      case hya29 => (intro V hSw; (try dsimp only at hSw); have z := X2.out V ((((Ta4.out.trans0 Ta12.out).trans0 Ta19.out).trans0 Ta23.out).trans0 hSw); go_simp; first | done | (with_reducible rfl))
      try simp only [Act.put, List.setIfInBounds_toArray, List.set_cons_zero, List.set_cons_succ]
      refine wpAnyH_take (i := 32) (oi := ⟨some 84, _, _, _, _, _⟩) (v := ?va32) rfl (by kernel_rfl) (by kernel_rfl) (by kernel_rfl) (fun _ _ _ h => h) (Or.inl ⟨by rfl, ?hya32⟩) (by assumption) ?resta32
      case hya32 => (intro V hSw; (try dsimp only at hSw); go_simp; first | done | (with_reducible rfl))
      try simp only [Act.put, List.setIfInBounds_toArray, List.set_cons_zero, List.set_cons_succ]
      refine wpAnyH_take (i := 33) (oi := ⟨some 85, _, _, _, _, _⟩) (v := ?va33) rfl (by kernel_rfl) (by kernel_rfl) (by kernel_rfl) (fun _ _ _ h => h) (Or.inl ⟨by rfl, ?hya33⟩) (by assumption) ?resta33
      case hya33 => (intro V hSw; (try dsimp only at hSw); have z := X2.out V ((((Ta4.out.trans0 Ta12.out).trans0 Ta19.out).trans0 Ta23.out).trans0 hSw); go_simp; first | done | (with_reducible rfl))
      try simp only [Act.put, List.setIfInBounds_toArray, List.set_cons_zero, List.set_cons_succ]
      refine wpAnyH_ready (rs := [30]) (by kernel_rfl) (by simp) ?_
      refine AllReadyH.cons (o := ⟨some 82, _, _, _, _, _⟩) rfl (fun K hK => ?_) AllReadyH.nil
      rw [if_pos (by rfl)]
      go_simp
      (with_reducible refine (D15.out _).mono ?_)
      rintro e wa30 ⟨oa30, ga30, ca30, rfl, ra30⟩
      have Ca30 := hide (fun V (o : Only [] wa30 V) => run_str_any (some ⟨ga30, 0, none⟩) 1 ca30 fb V HFB.out ((Src.own ra30).only0 o))
      clear ra30
      try dsimp only
      have Ta30 := hide (Only.trans0 hHeld oa30)
      refine hK.out _ _ Ta30.out (fun _ => ?_)
      clear hK K hHeld oa30
      have hHeld := Only.refl [] wa30
      refine wpAnyH_strong (S' := fun V => Only [] wa30 V) (fun V o => Ta30.out.trans0 o) _ _ _ _ ?_
      try simp only [Act.put, List.setIfInBounds_toArray, List.set_cons_zero, List.set_cons_succ]
      refine wpAnyH_take (i := 31) (oi := ⟨some 83, _, _, _, _, _⟩) (v := ?va31) rfl (by kernel_rfl) (by kernel_rfl) (by kernel_rfl) (fun _ _ _ h => h) (Or.inl ⟨by rfl, ?hya31⟩) (by assumption) ?resta31
      case hya31 => (intro V hSw; (try dsimp only at hSw); have z := Ca30.out V hSw; go_simp; first | done | (with_reducible rfl))
      try simp only [Act.put, List.setIfInBounds_toArray, List.set_cons_zero, List.set_cons_succ]
      refine wpAnyH_ready (rs := [34]) (by kernel_rfl) (by simp) ?_
      refine AllReadyH.cons (o := ⟨some 86, _, _, _, _, _⟩) rfl (fun K hK => ?_) AllReadyH.nil
      rw [if_pos (by rfl)]
      go_simp
      (with_reducible refine (D16.out _).mono ?_)
      rintro e wa34 ⟨oa34, ga34, ca34, rfl, ra34⟩
      have Ca34 := hide (fun V (o : Only [] wa34 V) => run_str_any (some ⟨ga34, 0, none⟩) 1 ca34 fb V HFB.out ((Src.own ra34).only0 o))
      clear ra34
      try dsimp only
      have Ta34 := hide (Only.trans0 hHeld oa34)
      refine hK.out _ _ Ta34.out (fun _ => ?_)
      clear hK K hHeld oa34
      have hHeld := Only.refl [] wa34
      refine wpAnyH_strong (S' := fun V => Only [] wa34 V) (fun V o => Ta34.out.trans0 o) _ _ _ _ ?_
      try simp only [Act.put, List.setIfInBounds_toArray, List.set_cons_zero, List.set_cons_succ]
      refine wpAnyH_take (i := 35) (oi := ⟨some 87, _, _, _, _, _⟩) (v := ?va35) rfl (by kernel_rfl) (by kernel_rfl) (by kernel_rfl) (fun _ _ _ h => h) (Or.inl ⟨by rfl, ?hya35⟩) (by assumption) ?resta35
      case hya35 => (intro V hSw; (try dsimp only at hSw); have z := Ca34.out V hSw; go_simp; first | done | (with_reducible rfl))
      try simp only [Act.put, List.setIfInBounds_toArray, List.set_cons_zero, List.set_cons_succ]
      refine wpAnyH_take (i := 36) (oi := ⟨some 88, _, _, _, _, _⟩) (v := ?va36) rfl (by kernel_rfl) (by kernel_rfl) (by kernel_rfl) (fun _ _ _ h => h) (Or.inl ⟨by rfl, ?hya36⟩) (by assumption) ?resta36
      case hya36 => (intro V hSw; (try dsimp only at hSw); go_simp; first | done | (with_reducible rfl))
      try simp only [Act.put, List.setIfInBounds_toArray, List.set_cons_zero, List.set_cons_succ]
      refine wpAnyH_take (i := 37) (oi := ⟨some 89, _, _, _, _, _⟩) (v := ?va37) rfl (by kernel_rfl) (by kernel_rfl) (by kernel_rfl) (fun _ _ _ h => h) (Or.inl ⟨by rfl, ?hya37⟩) (by assumption) ?resta37
      case hya37 => (intro V hSw; (try dsimp only at hSw); go_simp; first | done | (with_reducible rfl))
      try simp only [Act.put, List.setIfInBounds_toArray, List.set_cons_zero, List.set_cons_succ]
      refine wpAnyH_take (i := 38) (oi := ⟨some 90, _, _, _, _, _⟩) (v := ?va38) rfl (by kernel_rfl) (by kernel_rfl) (by kernel_rfl) (fun _ _ _ h => h) (Or.inl ⟨by rfl, ?hya38⟩) (by assumption) ?resta38
      case hya38 => (intro V hSw; (try dsimp only at hSw); go_simp; first | done | (with_reducible rfl))
      try simp only [Act.put, List.setIfInBounds_toArray, List.set_cons_zero, List.set_cons_succ]
      refine wpAnyH_take (i := 39) (oi := ⟨some 91, _, _, _, _, _⟩) (v := ?va39) rfl (by kernel_rfl) (by kernel_rfl) (by kernel_rfl) (fun _ _ _ h => h) (Or.inl ⟨by rfl, ?hya39⟩) (by assumption) ?resta39
      case hya39 => (intro V hSw; (try dsimp only at hSw); go_simp; first | done | (with_reducible rfl))
      try simp only [Act.put, List.setIfInBounds_toArray, List.set_cons_zero, List.set_cons_succ]
      refine wpAnyH_take (i := 40) (oi := ⟨some 92, _, _, _, _, _⟩) (v := ?va40) rfl (by kernel_rfl) (by kernel_rfl) (by kernel_rfl) (fun _ _ _ h => h) (Or.inl ⟨by rfl, ?hya40⟩) (by assumption) ?resta40
      case hya40 => (intro V hSw; (try dsimp only at hSw); have z := CJ.out V ((((((Ta4.out.trans0 Ta12.out).trans0 Ta19.out).trans0 Ta23.out).trans0 Ta30.out).trans0 Ta34.out).trans0 hSw); go_simp; first | done | (with_reducible rfl))
      try simp only [Act.put, List.setIfInBounds_toArray, List.set_cons_zero, List.set_cons_succ]
      refine wpAnyH_take (i := 41) (oi := ⟨some 93, _, _, _, _, _⟩) (v := ?va41) rfl (by kernel_rfl) (by kernel_rfl) (by kernel_rfl) (fun _ _ _ h => h) (Or.inl ⟨by rfl, ?hya41⟩) (by assumption) ?resta41
      case hya41 => (intro V hSw; (try dsimp only at hSw); go_simp; first | done | (with_reducible rfl))
      try simp only [Act.put, List.setIfInBounds_toArray, List.set_cons_zero, List.set_cons_succ]
      refine wpAnyH_take (i := 42) (oi := ⟨some 94, _, _, _, _, _⟩) (v := ?va42) rfl (by kernel_rfl) (by kernel_rfl) (by kernel_rfl) (fun _ _ _ h => h) (Or.inl ⟨by rfl, ?hya42⟩) (by assumption) ?resta42
      case hya42 => (intro V hSw; (try dsimp only at hSw); have z := CL.out V ((((((Ta4.out.trans0 Ta12.out).trans0 Ta19.out).trans0 Ta23.out).trans0 Ta30.out).trans0 Ta34.out).trans0 hSw); go_simp; first | done | (with_reducible rfl))
      try simp only [Act.put, List.setIfInBounds_toArray, List.set_cons_zero, List.set_cons_succ]
      refine wpAnyH_take (i := 43) (oi := ⟨some 95, _, _, _, _, _⟩) (v := ?va43) rfl (by kernel_rfl) (by kernel_rfl) (by kernel_rfl) (fun _ _ _ h => h) (Or.inl ⟨by rfl, ?hya43⟩) (by assumption) ?resta43
      case hya43 => (intro V hSw; (try dsimp only at hSw); go_simp; first | done | (with_reducible rfl))
      try simp only [Act.put, List.setIfInBounds_toArray, List.set_cons_zero, List.set_cons_succ]
      refine wpAnyH_take (i := 44) (oi := ⟨some 96, _, _, _, _, _⟩) (v := ?va44) rfl (by kernel_rfl) (by kernel_rfl) (by kernel_rfl) (fun _ _ _ h => h) (Or.inl ⟨by rfl, ?hya44⟩) (by assumption) ?resta44
      case hya44 => (intro V hSw; (try dsimp only at hSw); go_simp; first | done | (with_reducible rfl))
      try simp only [Act.put, List.setIfInBounds_toArray, List.set_cons_zero, List.set_cons_succ]
      refine wpAnyH_done (by kernel_rfl) ?_ _
      have O34 := hide ((((((Ta4.out.trans0 Ta12.out).trans0 Ta19.out).trans0 Ta23.out).trans0 Ta30.out).trans0 Ta34.out) : Only [] w8 wa34)
      have RA2 := hide (own_only' (own_only' RA.out O8.out (by simp)) O34.out (by simp))
      have RN2 := hide (own_only' (own_only' RN.out O8.out (by simp)) O34.out (by simp))
      have RJ2 := hide (own_only' RJ.out O34.out (by simp))
      have sz34 := O34.out.size
      have sz8' := O8.out.size
      have szr := HO.out.size
      have PA := hide (spoil_any _ _ _ _ _ wa34 RA2.out (by omega) (by simp; omega))
      have PN := hide (fun V (o : Only [ga] wa34 V) => spoil_any _ _ _ _ _ V (own_only' RN2.out o (by simp [blkOf]; omega)) (by omega) (by have := o.size; simp; omega))
      have PJ := hide (fun V (o : Only [ga, gn] wa34 V) => spoil_any _ _ _ _ _ V (own_only' RJ2.out o (by simp [blkOf]; omega)) (by omega) (by have := o.size; omega))
      clear Ta4 Ta12 Ta19 Ta23 Ta30 Ta34 Ca4 Ca12 Ca19 Ca23 Ca30 Ca34 D11 D12 D13 D14 D15 D16 CA CN CL CJ X0 X1 X2 X3 hHeld
      go_wp2_with (first
        | (go_at_call 17; (with_reducible refine (PJ.out _ p2).mono ?_); rintro e v3 ⟨rfl, u3⟩)
        | (go_at_call 17; (with_reducible refine (PN.out _ u1).mono ?_); rintro e v2 ⟨rfl, u2⟩; have p2 : Only [ga, gn] wa34 v2 := (Only.mono u1 (by simp)).trans u2 (fun k hk => .inl (by simp [blkOf] at hk; simp [hk])))
        | (go_at_call 17; (with_reducible refine PA.out.mono ?_); rintro e v1 ⟨rfl, u1⟩; have u1 : Only [ga] wa34 v1 := u1))
      have OZ := hide ((Only.mono p2 (by simp)).trans u3 (fun k hk => .inl (by simp [blkOf] at hk; simp [hk])) : Only [ga, gn, gj] wa34 v3)
      have O3Z := hide ((O38.out.trans0 O34.out).trans OZ.out (fun k hk => .inr (by simp at hk; rcases hk with rfl | rfl | rfl <;> omega)) : Only [] w3 v3)
      have NA := hide gA2
      have NB := hide (show gb ≠ ga ∧ gb ≠ gn ∧ gb ≠ gj ∧ gm ≠ ga ∧ gm ≠ gn ∧ gm ≠ gj from by omega)
      have RBv := hide (own_only' (own_only' (own_only' RB.out O8.out (by simp)) O34.out (by simp)) OZ.out (fun q hq => by have := NB.out; simp [blkOf] at hq; subst hq; simp; omega))
      have RMv := hide (own_only' (own_only' (own_only' RM.out O8.out (by simp)) O34.out (by simp)) OZ.out (fun q hq => by have := NB.out; simp [blkOf] at hq; subst hq; simp; omega))
      clear O38 OAB HX8 PA PN PJ p2 u1 u2 u3 JO
      go_loopw [13, 14] (fun vi vk wr => ∃ i : Nat, i ≤ j ∧ vi = .int .i64 i ∧ vk = .int .i64 ((L.take i).flatten.length : Nat) ∧ Only [] v3 wr) (fun vi _ _ => j - (intOf vi).toNat)
      case atStart => exact ⟨0, Nat.zero_le _, rfl, rfl, Only.refl _ _⟩
      case round =>
        obtain ⟨i, hi, rfl, rfl, hO⟩ := hrel
        have HOq := hide hO
        by_cases hlt2 : i < j
        · obtain ⟨es, hes⟩ : ∃ es, L[i]? = some es := ⟨_, List.getElem?_eq_getElem (by rw [HL.out]; exact hlt2)⟩
          obtain ⟨a, A', c', rfl, hcell, hs⟩ := (HP.out.only0 (O3Z.out.trans0 hO)) i es hes
          have hstep := flatten_take_succ L i es hes
          have hle := flatten_take_le L (i + 1)
          rw [hstep, List.length_append, HNJ.out] at hle
          obtain ⟨kk, hkk⟩ : ∃ kk, (L.take i).flatten.length = kk := ⟨_, rfl⟩
          obtain ⟨le, hlen⟩ : ∃ le, es.length = le := ⟨_, rfl⟩
          rw [hkk] at hle ⊢
          rw [hlen] at hle hcell
          have HS := hide hstep
          have HKK := hide hkk
          have HLE := hide hlen
          have RLq := own_only' (own_only' (own_only' RL8.out O34.out (by simp)) OZ.out (fun q hq => by have := NA.out q hq; simp; omega)) hO (by simp)
          have hcap := (own_cap RLq).1
          have E1 := fun n => run_str_any A' le c' es (wr.drewN n) hlen (hs.drewN n)
          have i1 : (i : Int) < (j : Int) := by omega
          have i0 : (0 : Int) ≤ (i : Int) := by omega
          have z1 : (0 : Int) ≤ (kk : Int) := by omega
          obtain ⟨hh, hhh⟩ : ∃ hh, kk + le = hh := ⟨_, rfl⟩
          have z2 : IntKind.i64.wrap ((kk : Int) + (le : Int)) = (hh : Int) := by rw [IntWalk.i64_in _ (by omega)]; omega
          have z3 : (kk : Int) ≤ (hh : Int) := by omega
          have z4 : (hh : Int) ≤ (co : Int) := by omega
          have z5 : (0 : Int) ≤ (hh : Int) := by omega
          have HHH := hide hhh
          clear hs hstep hes hkk hlen hO hhh
          obtain ⟨As, hAs⟩ : ∃ As, (if co = kk then A else A.map (·.add (kk * 1))) = As := ⟨_, rfl⟩
          have F1 := fun n => run_cut_lh (P := Try.prog) (s := 1) Try.underlying23 size5 A nJ co .i64 .i64 (kk : Int) (hh : Int) kk hh rfl rfl (by omega) (by omega) (wr.drewN n)
          simp only [slice_hide] at F1
          rw [hAs, show hh - kk = le by have := HHH.out; omega] at F1
          have E2 := fun n => run_str_any As le (co - kk) es (wr.drewN n) HLE.out ((hAs ▸ src_cut RLq (es := es) (kk := kk) (by rw [HLE.out]; have := HHH.out; omega) (by rw [HKK.out.symm]; exact flat_mid HS.out HNJ.out) : Src wr As es).drewN n)
          clear hAs RLq z4
          go_wp2_with fail
          go_quiet (fail)
          go_wp2_with fail
          refine ⟨⟨i + 1, by omega, by go_num, ?_, HOq.out.drewN nq⟩, by simp [intOf]; omega⟩
          rw [HS.out, List.length_append, HKK.out, HLE.out, HHH.out]
        · obtain rfl : i = j := by omega
          have O3r := hide (O3Z.out.trans0 hO)
          have HXr := hide (HX.out.only O3r.out (by simp))
          have S0r := hide (HS0.out.only0 O3r.out)
          have BB := hide (fun V (o : Only [] wr V) => run_str_any (some ⟨gb, 0, none⟩) nn cb (numF n0 ++ ds) V HNn.out ((Src.own (own_only' RBv.out hO (by simp))).only0 o))
          have BM := hide (fun V (o : Only [] wr V) => run_str_any (some ⟨gm, 0, none⟩) nN cm (numF N) V HNN.out ((Src.own (own_only' RMv.out hO (by simp))).only0 o))
          have BO := hide (fun V (o : Only [] wr V) => run_str_any (some ⟨gO, 0, none⟩) (n0 + 1) cO (ds ++ [119]) V (by rw [List.length_append, HL0.out]; rfl) ((show Src w3 (some ⟨gO, 0, none⟩) (ds ++ [119]) from SO.out).only0 (O3r.out.trans0 o)))
          have BT := hide (fun V (o : Only [] wr V) => run_str_any A0 n0 c0 ds V HL0.out (S0r.out.only0 o))
          have Y0 := hide (fun V (o : Only [] wr V) => o.keep0 (show wr.cell? ⟨X, 0, none⟩ = some (.int .u64 N) from (HXr.out.cell 0).trans rfl))
          have Y3 := hide (fun V (o : Only [] wr V) => o.keep0 (show wr.cell? ⟨X, 3, none⟩ = some (.slice A0 n0 c0) from (HXr.out.cell 3).trans rfl))
          have E11 := hide (fun V (o : Only [] wr V) => Fresh.toN HNn.out (rbytes_any A0 n0 c0 ds V HL0.out (by omega) (S0r.out.only0 o)))
          have E12 := hide (fun V => Fresh.toN HNN.out (rnumber_any N hN V))
          have ADD := hide (add_77 ds)
          have ADL := hide (show ¬ (9223372036854775807 < ds.length + 1) from by have := HL0.out; omega)
          go_wp2_with fail
          refine wp_region_held_drew (S := (fun V => Only [] wr V)) (by kernel_rfl) (Only.refl [] wr).drew (fun hHeld => ?_)
          refine wpAnyH_take (i := 0) (oi := ⟨some 133, _, _, _, _, _⟩) (v := ?vb0) rfl (by kernel_rfl) (by kernel_rfl) (by kernel_rfl) (fun _ _ _ h => h) (Or.inl ⟨by rfl, ?hyb0⟩) (by assumption) ?restb0
          case hyb0 => (intro V hSw; (try dsimp only at hSw); go_simp; first | done | (with_reducible rfl))
          try simp only [Act.put, List.setIfInBounds_toArray, List.set_cons_zero, List.set_cons_succ]
          refine wpAnyH_take (i := 1) (oi := ⟨some 134, _, _, _, _, _⟩) (v := ?vb1) rfl (by kernel_rfl) (by kernel_rfl) (by kernel_rfl) (fun _ _ _ h => h) (Or.inl ⟨by rfl, ?hyb1⟩) (by assumption) ?restb1
          case hyb1 => (intro V hSw; (try dsimp only at hSw); have z := BB.out V ((Only.refl [] wr).trans0 hSw); go_simp; first | done | (with_reducible rfl))
          try simp only [Act.put, List.setIfInBounds_toArray, List.set_cons_zero, List.set_cons_succ]
          refine wpAnyH_take (i := 2) (oi := ⟨some 135, _, _, _, _, _⟩) (v := ?vb2) rfl (by kernel_rfl) (by kernel_rfl) (by kernel_rfl) (fun _ _ _ h => h) (Or.inl ⟨by rfl, ?hyb2⟩) (by assumption) ?restb2
          case hyb2 => (intro V hSw; (try dsimp only at hSw); go_simp; first | done | (with_reducible rfl))
          try simp only [Act.put, List.setIfInBounds_toArray, List.set_cons_zero, List.set_cons_succ]
          refine wpAnyH_take (i := 3) (oi := ⟨some 136, _, _, _, _, _⟩) (v := ?vb3) rfl (by kernel_rfl) (by kernel_rfl) (by kernel_rfl) (fun _ _ _ h => h) (Or.inl ⟨by rfl, ?hyb3⟩) (by assumption) ?restb3
          case hyb3 => (intro V hSw; (try dsimp only at hSw); have z := Y3.out V ((Only.refl [] wr).trans0 hSw); go_simp; first | done | (with_reducible rfl))
          try simp only [Act.put, List.setIfInBounds_toArray, List.set_cons_zero, List.set_cons_succ]
          refine wpAnyH_ready (rs := [4]) (by kernel_rfl) (by simp) ?_
          refine AllReadyH.cons (o := ⟨some 137, _, _, _, _, _⟩) rfl (fun K hK => ?_) AllReadyH.nil
          rw [if_pos (by rfl)]
          go_simp
          (with_reducible refine (E11.out _ ((Only.refl [] wr).trans0 hHeld)).mono ?_)
          rintro e wb4 ⟨ob4, gb4, cb4, rfl, rb4⟩
          have Cb4 := hide (fun V (o : Only [] wb4 V) => run_str_any (some ⟨gb4, 0, none⟩) nn cb4 (numF n0 ++ ds) V HNn.out ((Src.own rb4).only0 o))
          clear rb4
          try dsimp only
          have Tb4 := hide (Only.trans0 hHeld ob4)
          refine hK.out _ _ Tb4.out (fun _ => ?_)
          clear hK K hHeld ob4
          have hHeld := Only.refl [] wb4
          refine wpAnyH_strong (S' := fun V => Only [] wb4 V) (fun V o => Tb4.out.trans0 o) _ _ _ _ ?_
          try simp only [Act.put, List.setIfInBounds_toArray, List.set_cons_zero, List.set_cons_succ]
          refine wpAnyH_take (i := 5) (oi := ⟨some 138, _, _, _, _, _⟩) (v := ?vb5) rfl (by kernel_rfl) (by kernel_rfl) (by kernel_rfl) (fun _ _ _ h => h) (Or.inl ⟨by rfl, ?hyb5⟩) (by assumption) ?restb5
          case hyb5 => (intro V hSw; (try dsimp only at hSw); have z := Cb4.out V hSw; go_simp; first | done | (with_reducible rfl))
          try simp only [Act.put, List.setIfInBounds_toArray, List.set_cons_zero, List.set_cons_succ]
          refine wpAnyH_take (i := 6) (oi := ⟨some 139, _, _, _, _, _⟩) (v := ?vb6) rfl (by kernel_rfl) (by kernel_rfl) (by kernel_rfl) (fun _ _ _ h => h) (Or.inl ⟨by rfl, ?hyb6⟩) (by assumption) ?restb6
          case hyb6 => (intro V hSw; (try dsimp only at hSw); go_simp; first | done | (with_reducible rfl))
          try simp only [Act.put, List.setIfInBounds_toArray, List.set_cons_zero, List.set_cons_succ]
          refine wpAnyH_take (i := 7) (oi := ⟨some 140, _, _, _, _, _⟩) (v := ?vb7) rfl (by kernel_rfl) (by kernel_rfl) (by kernel_rfl) (fun _ _ _ h => h) (Or.inl ⟨by rfl, ?hyb7⟩) (by assumption) ?restb7
          case hyb7 => (intro V hSw; (try dsimp only at hSw); go_simp; first | done | (with_reducible rfl))
          try simp only [Act.put, List.setIfInBounds_toArray, List.set_cons_zero, List.set_cons_succ]
          refine wpAnyH_take (i := 8) (oi := ⟨some 141, _, _, _, _, _⟩) (v := ?vb8) rfl (by kernel_rfl) (by kernel_rfl) (by kernel_rfl) (fun _ _ _ h => h) (Or.inl ⟨by rfl, ?hyb8⟩) (by assumption) ?restb8
          case hyb8 => (intro V hSw; (try dsimp only at hSw); go_simp; first | done | (with_reducible rfl))
          try simp only [Act.put, List.setIfInBounds_toArray, List.set_cons_zero, List.set_cons_succ]
          refine wpAnyH_take (i := 9) (oi := ⟨some 142, _, _, _, _, _⟩) (v := ?vb9) rfl (by kernel_rfl) (by kernel_rfl) (by kernel_rfl) (fun _ _ _ h => h) (Or.inl ⟨by rfl, ?hyb9⟩) (by assumption) ?restb9
          case hyb9 => (intro V hSw; (try dsimp only at hSw); have z := BM.out V (Tb4.out.trans0 hSw); go_simp; first | done | (with_reducible rfl))
          try simp only [Act.put, List.setIfInBounds_toArray, List.set_cons_zero, List.set_cons_succ]
          refine wpAnyH_take (i := 10) (oi := ⟨some 143, _, _, _, _, _⟩) (v := ?vb10) rfl (by kernel_rfl) (by kernel_rfl) (by kernel_rfl) (fun _ _ _ h => h) (Or.inl ⟨by rfl, ?hyb10⟩) (by assumption) ?restb10
          case hyb10 => (intro V hSw; (try dsimp only at hSw); go_simp; first | done | (with_reducible rfl))
          try simp only [Act.put, List.setIfInBounds_toArray, List.set_cons_zero, List.set_cons_succ]
          refine wpAnyH_take (i := 11) (oi := ⟨some 144, _, _, _, _, _⟩) (v := ?vb11) rfl (by kernel_rfl) (by kernel_rfl) (by kernel_rfl) (fun _ _ _ h => h) (Or.inl ⟨by rfl, ?hyb11⟩) (by assumption) ?restb11
          case hyb11 => (intro V hSw; (try dsimp only at hSw); have z := Y0.out V (Tb4.out.trans0 hSw); go_simp; first | done | (with_reducible rfl))
          try simp only [Act.put, List.setIfInBounds_toArray, List.set_cons_zero, List.set_cons_succ]
          refine wpAnyH_ready (rs := [12]) (by kernel_rfl) (by simp) ?_
          refine AllReadyH.cons (o := ⟨some 145, _, _, _, _, _⟩) rfl (fun K hK => ?_) AllReadyH.nil
          rw [if_pos (by rfl)]
          go_simp
          (with_reducible refine (E12.out _).mono ?_)
          rintro e wb12 ⟨ob12, gb12, cb12, rfl, rb12⟩
          have Cb12 := hide (fun V (o : Only [] wb12 V) => run_str_any (some ⟨gb12, 0, none⟩) nN cb12 (numF N) V HNN.out ((Src.own rb12).only0 o))
          clear rb12
          try dsimp only
          have Tb12 := hide (Only.trans0 hHeld ob12)
          refine hK.out _ _ Tb12.out (fun _ => ?_)
          clear hK K hHeld ob12
          have hHeld := Only.refl [] wb12
          refine wpAnyH_strong (S' := fun V => Only [] wb12 V) (fun V o => Tb12.out.trans0 o) _ _ _ _ ?_
          try simp only [Act.put, List.setIfInBounds_toArray, List.set_cons_zero, List.set_cons_succ]
          refine wpAnyH_take (i := 13) (oi := ⟨some 146, _, _, _, _, _⟩) (v := ?vb13) rfl (by kernel_rfl) (by kernel_rfl) (by kernel_rfl) (fun _ _ _ h => h) (Or.inl ⟨by rfl, ?hyb13⟩) (by assumption) ?restb13
          case hyb13 => (intro V hSw; (try dsimp only at hSw); have z := Cb12.out V hSw; go_simp; first | done | (with_reducible rfl))
          try simp only [Act.put, List.setIfInBounds_toArray, List.set_cons_zero, List.set_cons_succ]
          refine wpAnyH_take (i := 14) (oi := ⟨some 147, _, _, _, _, _⟩) (v := ?vb14) rfl (by kernel_rfl) (by kernel_rfl) (by kernel_rfl) (fun _ _ _ h => h) (Or.inl ⟨by rfl, ?hyb14⟩) (by assumption) ?restb14
          case hyb14 => (intro V hSw; (try dsimp only at hSw); go_simp; first | done | (with_reducible rfl))
          try simp only [Act.put, List.setIfInBounds_toArray, List.set_cons_zero, List.set_cons_succ]
          refine wpAnyH_take (i := 15) (oi := ⟨some 148, _, _, _, _, _⟩) (v := ?vb15) rfl (by kernel_rfl) (by kernel_rfl) (by kernel_rfl) (fun _ _ _ h => h) (Or.inl ⟨by rfl, ?hyb15⟩) (by assumption) ?restb15
          case hyb15 => (intro V hSw; (try dsimp only at hSw); go_simp; first | done | (with_reducible rfl))
          try simp only [Act.put, List.setIfInBounds_toArray, List.set_cons_zero, List.set_cons_succ]
          refine wpAnyH_take (i := 16) (oi := ⟨some 149, _, _, _, _, _⟩) (v := ?vb16) rfl (by kernel_rfl) (by kernel_rfl) (by kernel_rfl) (fun _ _ _ h => h) (Or.inl ⟨by rfl, ?hyb16⟩) (by assumption) ?restb16
          case hyb16 => (intro V hSw; (try dsimp only at hSw); go_simp; first | done | (with_reducible rfl))
          try simp only [Act.put, List.setIfInBounds_toArray, List.set_cons_zero, List.set_cons_succ]
          refine wpAnyH_take (i := 17) (oi := ⟨some 150, _, _, _, _, _⟩) (v := ?vb17) rfl (by kernel_rfl) (by kernel_rfl) (by kernel_rfl) (fun _ _ _ h => h) (Or.inl ⟨by rfl, ?hyb17⟩) (by assumption) ?restb17
          case hyb17 => (intro V hSw; (try dsimp only at hSw); go_simp; first | done | (with_reducible rfl))
          try simp only [Act.put, List.setIfInBounds_toArray, List.set_cons_zero, List.set_cons_succ]
          refine wpAnyH_take (i := 18) (oi := ⟨some 151, _, _, _, _, _⟩) (v := ?vb18) rfl (by kernel_rfl) (by kernel_rfl) (by kernel_rfl) (fun _ _ _ h => h) (Or.inl ⟨by rfl, ?hyb18⟩) (by assumption) ?restb18
          case hyb18 => (intro V hSw; (try dsimp only at hSw); have z := BO.out V ((Tb4.out.trans0 Tb12.out).trans0 hSw); go_simp; first | done | (with_reducible rfl))
          try simp only [Act.put, List.setIfInBounds_toArray, List.set_cons_zero, List.set_cons_succ]
          refine wpAnyH_take (i := 19) (oi := ⟨some 152, _, _, _, _, _⟩) (v := ?vb19) rfl (by kernel_rfl) (by kernel_rfl) (by kernel_rfl) (fun _ _ _ h => h) (Or.inl ⟨by rfl, ?hyb19⟩) (by assumption) ?restb19
          case hyb19 => (intro V hSw; (try dsimp only at hSw); go_simp; first | done | (with_reducible rfl))
          try simp only [Act.put, List.setIfInBounds_toArray, List.set_cons_zero, List.set_cons_succ]
          refine wpAnyH_take (i := 20) (oi := ⟨some 153, _, _, _, _, _⟩) (v := ?vb20) rfl (by kernel_rfl) (by kernel_rfl) (by kernel_rfl) (fun _ _ _ h => h) (Or.inl ⟨by rfl, ?hyb20⟩) (by assumption) ?restb20
          case hyb20 => (intro V hSw; (try dsimp only at hSw); have z := Y3.out V ((Tb4.out.trans0 Tb12.out).trans0 hSw); go_simp; first | done | (with_reducible rfl))
          try simp only [Act.put, List.setIfInBounds_toArray, List.set_cons_zero, List.set_cons_succ]
          refine wpAnyH_take (i := 21) (oi := ⟨some 154, _, _, _, _, _⟩) (v := ?vb21) rfl (by kernel_rfl) (by kernel_rfl) (by kernel_rfl) (fun _ _ _ h => h) (Or.inl ⟨by rfl, ?hyb21⟩) (by assumption) ?restb21
          case hyb21 => (intro V hSw; (try dsimp only at hSw); have z := BT.out V ((Tb4.out.trans0 Tb12.out).trans0 hSw); go_simp; first | done | (with_reducible rfl))
          try simp only [Act.put, List.setIfInBounds_toArray, List.set_cons_zero, List.set_cons_succ]
          refine wpAnyH_take (i := 22) (oi := ⟨some 155, _, _, _, _, _⟩) (v := ?vb22) rfl (by kernel_rfl) (by kernel_rfl) (by kernel_rfl) (fun _ _ _ h => h) (Or.inl ⟨by rfl, ?hyb22⟩) (by assumption) ?restb22
          case hyb22 => (intro V hSw; (try dsimp only at hSw); have z := ADD.out; have z2 := ADL.out; go_simp; first | done | (with_reducible rfl))
          try simp only [Act.put, List.setIfInBounds_toArray, List.set_cons_zero, List.set_cons_succ]
          refine wpAnyH_take (i := 23) (oi := ⟨some 156, _, _, _, _, _⟩) (v := ?vb23) rfl (by kernel_rfl) (by kernel_rfl) (by kernel_rfl) (fun _ _ _ h => h) (Or.inl ⟨by rfl, ?hyb23⟩) (by assumption) ?restb23
          case hyb23 => (intro V hSw; (try dsimp only at hSw); go_simp; first | done | (with_reducible rfl))
          try simp only [Act.put, List.setIfInBounds_toArray, List.set_cons_zero, List.set_cons_succ]
          refine wpAnyH_take (i := 24) (oi := ⟨some 157, _, _, _, _, _⟩) (v := ?vb24) rfl (by kernel_rfl) (by kernel_rfl) (by kernel_rfl) (fun _ _ _ h => h) (Or.inl ⟨by rfl, ?hyb24⟩) (by assumption) ?restb24
          case hyb24 => (intro V hSw; (try dsimp only at hSw); go_simp; first | done | (with_reducible rfl))
          try simp only [Act.put, List.setIfInBounds_toArray, List.set_cons_zero, List.set_cons_succ]
          refine wpAnyH_take (i := 25) (oi := ⟨some 158, _, _, _, _, _⟩) (v := ?vb25) rfl (by kernel_rfl) (by kernel_rfl) (by kernel_rfl) (fun _ _ _ h => h) (Or.inl ⟨by rfl, ?hyb25⟩) (by assumption) ?restb25
          case hyb25 => (intro V hSw; (try dsimp only at hSw); go_simp; first | done | (with_reducible rfl))
          try simp only [Act.put, List.setIfInBounds_toArray, List.set_cons_zero, List.set_cons_succ]
          refine wpAnyH_ready (rs := [26]) (by kernel_rfl) (by simp) ?_
          refine AllReadyH.cons (o := ⟨some 159, _, _, _, _, _⟩) rfl (fun K hK => ?_) AllReadyH.nil
          rw [if_pos (by rfl)]
          go_simp
          (refine (known_any _).mono ?_)
          rintro e wb26 ⟨rfl, ob26⟩
          try dsimp only
          have Tb26 := hide (Only.trans0 hHeld ob26)
          refine hK.out _ _ Tb26.out (fun _ => ?_)
          clear hK K hHeld ob26
          have hHeld := Only.refl [] wb26
          refine wpAnyH_strong (S' := fun V => Only [] wb26 V) (fun V o => Tb26.out.trans0 o) _ _ _ _ ?_
          try simp only [Act.put, List.setIfInBounds_toArray, List.set_cons_zero, List.set_cons_succ]
          refine wpAnyH_take (i := 27) (oi := ⟨some 160, _, _, _, _, _⟩) (v := ?vb27) rfl (by kernel_rfl) (by kernel_rfl) (by kernel_rfl) (fun _ _ _ h => h) (Or.inl ⟨by rfl, ?hyb27⟩) (by assumption) ?restb27
          case hyb27 => (intro V hSw; (try dsimp only at hSw); go_simp; first | done | (with_reducible rfl))
          try simp only [Act.put, List.setIfInBounds_toArray, List.set_cons_zero, List.set_cons_succ]
          refine wpAnyH_take (i := 28) (oi := ⟨some 4, _, _, _, _, _⟩) (v := ?vb28) rfl (by kernel_rfl) (by kernel_rfl) (by kernel_rfl) (fun _ _ _ h => h) (Or.inl ⟨by rfl, ?hyb28⟩) (by assumption) ?restb28
          case hyb28 => (intro V hSw; (try dsimp only at hSw); go_simp; first | done | (with_reducible rfl))
          try simp only [Act.put, List.setIfInBounds_toArray, List.set_cons_zero, List.set_cons_succ]
          refine wpAnyH_done (by kernel_rfl) ?_ _
          go_wp2_with fail
          go_ret
          exact ⟨rfl, HO3.out.trans0 (O3r.out.trans0 ((Tb4.out.trans0 Tb12.out).trans0 Tb26.out))⟩
end Go.Proofs.Ytdaeaepfbnlaeaa
