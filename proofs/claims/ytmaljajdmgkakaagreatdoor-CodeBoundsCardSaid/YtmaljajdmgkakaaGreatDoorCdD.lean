/- Code: the walk of Read. Condition: Env. -/
import Derived.Test.YtmaljajdmgkakaaGreatDoorCd9
import Derived.Scope
import Derived.OwnWalk
namespace Go.Proofs.YtmaljajdmgkakaaGreatDoor
open Go.RowKit
set_option linter.unusedVariables false
set_option linter.all false
set_option maxRecDepth 20000
attribute [local go_sem ↓] app_hide

/-- What is left to read, and what has been read. -/
def readL (cnt : Int) : Nat → List Ins → List UInt8 → List Ins × List UInt8
  | 0, p, r => (p, r)
  | f + 1, p, r => if r = [] then (p, []) else match parP (cutAt 10 r).1 with
    | none => (p, r)
    | some i => if (cutAt 10 r).2.2 = true ∧ mayI i cnt = true ∧ p.length < 256 then readL cnt f (p ++ [i]) (cutAt 10 r).2.1 else (p, r)
theorem readL_nil (cnt : Int) (f : Nat) (p : List Ins) : readL cnt f p [] = (p, []) := by
  cases f <;> simp [readL]
theorem readL_none {cnt : Int} {f : Nat} {p : List Ins} {r : List UInt8} (h : parP (cutAt 10 r).1 = none) : readL cnt f p r = (p, r) := by
  cases f with
  | zero => rfl
  | succ f =>
    unfold readL
    split
    · rename_i h0; rw [h0]
    · rw [h]
theorem readL_stop {cnt : Int} {f : Nat} {p : List Ins} {r : List UInt8} {i : Ins} (h : parP (cutAt 10 r).1 = some i) (hc : ¬ ((cutAt 10 r).2.2 = true ∧ mayI i cnt = true ∧ p.length < 256)) : readL cnt f p r = (p, r) := by
  cases f with
  | zero => rfl
  | succ f =>
    unfold readL
    split
    · rename_i h0; rw [h0]
    · rw [h]; simp only; rw [if_neg hc]
theorem readL_go {cnt : Int} {f : Nat} {p : List Ins} {r : List UInt8} {i : Ins} (hr : r ≠ []) (h : parP (cutAt 10 r).1 = some i) (hc : (cutAt 10 r).2.2 = true ∧ mayI i cnt = true ∧ p.length < 256) : readL cnt (f + 1) p r = readL cnt f (p ++ [i]) (cutAt 10 r).2.1 := by
  conv => lhs; unfold readL
  rw [if_neg hr, h]
  simp only
  rw [if_pos hc]
def cntR (t : List UInt8) : Int := Lib.countByte t 10 + if t ≠ [] ∧ Lib.hasSuffix t [10] = false then 1 else 0
/-- What Read answers. -/
def readR (t : List UInt8) : List Ins × Int × Int := if 16384 < t.length then ([], 0, 3) else
  if (readL (cntR t) t.length [] t).2 ≠ [] then ([], ((readL (cntR t) t.length [] t).1.length : Nat), 4) else ((readL (cntR t) t.length [] t).1, 0, 0)
/-! ## Rows of instructions -/
def GI (p : List Ins) : List Value := p.flatMap fun i => (insV i).toList
def Is (w : World) (B : Nat) (A : Option Addr) (c : Nat) (p : List Ins) : Prop := w.ownsRow B 25 5 (.slice A p.length c) p.length (GI p)
theorem Is.only0 {w w' : World} {B : Nat} {A : Option Addr} {c : Nat} {p : List Ins} (h : Is w B A c p) (o : Only [] w w') : Is w' B A c p := own_only' h o (by simp)
theorem GI_append (a b : List Ins) : GI (a ++ b) = GI a ++ GI b := by simp [GI]
theorem info24b : (Tryz.prog.info? 25).map (fun i => (i.zero, i.size, i.bytes)) = some (some (.agg z5), 5, 40) := by kernel_rfl
theorem app_ins (W : World) (B : Nat) (A : Option Addr) (c : Nat) (l : List Ins) (i : Ins) (hrow : Is W B A c l) (hl : l.length ≤ 100000) (hB : B ≤ W.heap.size) :
    ∃ g' c' w2, (AppH #[22, 22] 22 #[.slice A l.length c, .slice (some ⟨W.heap.size, 0, none⟩) 1 1]).run Tryz.prog (W.alloc (.cells (insV i) 25)) = .ok (.slice (some ⟨g', 0, none⟩) (l.length + 1) c') w2 ∧
      Is w2 B (some ⟨g', 0, none⟩) c' (l ++ [i]) ∧ Only (blkOf A) W w2 := by
  obtain ⟨i0, hi, hz0, hz1, hz2⟩ := info_parts info24b
  obtain ⟨g', cap', w2, hrun, hown, ho, hgg⟩ := append_at (P := Tryz.prog) (W.alloc (.cells (insV i) 25)) B 22 22 25 i0 (.agg z5) 5 40 Tryz.underlying22 hi hz0 hz1 hz2 rfl (by omega) A l.length c (GI l) (own_only' hrow ((Only.refl [] W).alloc _) (by simp))
    ⟨W.heap.size, 0, none⟩ 1 1 (insV i).toList rfl (fun j u hj => by
      have := (Blk.new W 25 (insV i)).cell j
      rw [add_mk, Nat.zero_add, this]
      rw [← Array.getElem?_toList]
      exact hj) (by intro u hu; simp [insV] at hu; rcases hu with rfl | rfl | rfl | rfl | rfl <;> rfl) (.inl (by omega)) (by unfold maxLen; omega) (by omega) (by simp; omega)
  rw [app_hide] at hrun
  have e : GI l ++ (insV i).toList = GI (l ++ [i]) := by rw [GI_append]; simp [GI]
  rw [e] at hown
  exact ⟨g', cap', w2, hrun, by unfold Is; simpa using hown, ((Only.refl (blkOf A) W).alloc _).trans' ho⟩
theorem suf_any (l : List UInt8) (hl : l.length ≤ 1000000) (w : World) : Calls Tryz.prog 27 #[.string (bs l), .string ⟨#[10]⟩] w fun e w' => e = .returned (.bool (Lib.hasSuffix l [10])) ∧ w' = w := by
  have := Tryz.strings_HasSuffix (bs l) ⟨#[10]⟩ w (by rw [bs_size]; omega)
  rw [bs_list] at this
  exact this
theorem cnt_any (l : List UInt8) (w : World) : Calls Tryz.prog 26 #[.string (bs l), .string ⟨#[10]⟩] w fun e w' => e = .returned (.int .i64 (Lib.countByte l 10)) ∧ w' = w := by
  have := Tryz.strings_Count_one (bs l) 10 w
  rw [bs_list] at this
  exact this
theorem bs_empty (l : List UInt8) : ((bs l).toList == (ByteArray.mk #[]).toList) = l.isEmpty := by
  have := bs_eq l []
  rw [show bs [] = ByteArray.mk #[] from rfl] at this
  rw [this]
  cases l <;> rfl
set_option maxHeartbeats 8000000 in
theorem read_walk (t : List UInt8) (ht : t.length ≤ 100000) (w : World) (he : Env w) (hw4 : 4 ≤ w.heap.size) : Calls Tryz.prog 8 #[.string (bs t)] w fun e w' => (∃ A c p n er, e = .returned (.tuple #[.slice A p.length c, .int .i64 n, .int .i64 er]) ∧ readR t = (p, n, er) ∧ Is w' w.heap.size A c p) ∧ Only [] w w' := by
  have hsz := bs_size t
  by_cases hlong : 16384 < t.length
  · have hR : readR t = ([], 0, 3) := if_pos hlong
    have d1 : decide ((16384 : Int) < (t.length : Int)) = true := decide_eq_true (by omega)
    have i1 : (16384 : Int) < (t.length : Int) := by omega
    go_enter Tryz.func8, Tryz.ntmps8
    go_wp2_with fail
    apply wp_scope_straight
    go_wp2_with fail
    try simp only [Exit.noGoto]
    refine bodyPost_ret (v := .tuple #[.slice none 0 0, .int .i64 0, .int .i64 3]) (by simp [results, Tryz.results8, go_sem]) rfl ⟨⟨none, 0, [], 0, 3, rfl, hR, World.ownsRow_nil ..⟩, Only.refl _ _⟩
  have htl : (bs t).toList = t := by rw [ByteArray.toList_eq, bs_list]
  have i1 : ¬ ((16384 : Int) < (t.length : Int)) := by omega
  have d1 : decide ((16384 : Int) < (t.length : Int)) = false := decide_eq_false i1
  have d2 : decide (16384 < t.length) = false := decide_eq_false hlong
  obtain ⟨cn, hcn⟩ : ∃ cn, cntR t = cn := ⟨_, rfl⟩
  obtain ⟨RES, hRES⟩ : ∃ RES, readL cn t.length [] t = RES := ⟨_, rfl⟩
  have HRD := hide (show readR t = if RES.2 ≠ [] then (([] : List Ins), ((RES.1.length : Nat) : Int), (4 : Int)) else (RES.1, (0 : Int), (0 : Int)) by unfold readR; rw [if_neg hlong, hcn, hRES])
  have HRES := hide hRES
  have HE := hide he
  have CN := fun W => cnt_any t W
  obtain ⟨k0, hk0⟩ : ∃ k0 : Nat, Lib.countByte t 10 = k0 := ⟨_, rfl⟩
  have hk0l : k0 ≤ 16384 := by rw [← hk0]; have := List.count_le_length (a := (10 : UInt8)) (l := t); unfold Lib.countByte; omega
  rw [hk0] at CN
  unfold cntR at hcn
  rw [hk0] at hcn
  clear he hRES
  by_cases ht0 : t = []
  · rw [if_neg (fun h => h.1 ht0), Int.add_zero] at hcn
    simp only [hcn] at CN
    have CN := hide CN
    have hte : (bs t).toList = [] := by rw [htl]; exact ht0
    have hie : t.isEmpty = true := by rw [ht0]; rfl
    clear hk0 htl ht0 hcn
    go_enter Tryz.func8, Tryz.ntmps8
    go_wp2_with fail
    apply wp_scope_straight
    go_wp2_with (go_at_call 26; (with_reducible refine (CN.out _).mono ?_); rintro e w' ⟨rfl, hw⟩; obtain rfl := hw.symm; clear hw)
    clear hte hie
    apply wp_label
    go_wp2_with fail
    go_loopw [6, 7] (fun vp vr wr => ∃ (p : List Ins) (r : List UInt8) (A : Option Addr) (c f : Nat), vp = .slice A p.length c ∧ vr = .string (bs r) ∧ r.length ≤ t.length ∧ p.length ≤ 256 ∧ r.length ≤ f ∧ Hid (Is wr w.heap.size A c p) ∧ Hid (readL cn f p r = RES) ∧ Hid (Only [] w wr)) (fun _ vr _ => match vr with | .string b => b.size | _ => 0)
    case atStart => exact ⟨[], t, none, 0, t.length, rfl, rfl, Nat.le_refl _, by simp, Nat.le_refl _, hide (World.ownsRow_nil ..), HRES, hide (Only.refl _ _)⟩
    case round =>
      clear HRES CN
      obtain ⟨p, r, A, c, f, rfl, rfl, hrl, hp, hf, hI, hL, hO⟩ := hrel
      have htr : (bs r).toList = r := by rw [ByteArray.toList_eq, bs_list]
      by_cases hr0 : r = []
      · have hRS := hL.out
        rw [hr0, readL_nil] at hRS
        have HRS := hide hRS
        have e0 : bs r = ⟨#[]⟩ := by rw [hr0]; rfl
        rw [e0]
        clear hr0 hRS htr e0
        go_wp2_with fail
        have hR := HRD.out
        rw [← HRS.out] at hR
        (try simp only [Exit.noGoto])
        go_ret3
        exact ⟨⟨A, c, p, 0, 0, rfl, hR, hI.out⟩, hO.out⟩
      · have hne : ¬ (bs r).toList = [] := by rw [htr]; exact hr0
        have hne2 : ¬ r = [] := hr0
        have hne3 : (bs r).toList.isEmpty = false := by rw [htr]; simpa using hr0
        have CT := cut_any (bs r) 10 (by rw [bs_size]; omega) wr (HE.out.only hO.out)
        have hcl := cut_len 10 r
        simp only [bs_list] at CT
        obtain ⟨l1, hl1⟩ : ∃ x, (cutAt 10 r).1 = x := ⟨_, rfl⟩
        obtain ⟨l2, hl2⟩ : ∃ x, (cutAt 10 r).2.1 = x := ⟨_, rfl⟩
        obtain ⟨l3, hl3⟩ : ∃ x, (cutAt 10 r).2.2 = x := ⟨_, rfl⟩
        rw [hl1, hl2, hl3] at CT hcl
        have CT := hide (show Calls Tryz.prog 28 #[.string (bs r), .string ⟨#[10]⟩] wr fun e w' => e = .returned (.tuple #[.string (bs l1), .string (bs l2), .bool l3]) ∧ Only [] wr w' from CT)
        have hs0 := hO.out.size
        have PW := hide (fun W (o : Only [] wr W) => parse_walk l1 (by omega) W (HE.out.only (hO.out.trans0 o)) (by have := o.size; omega))
        have HNE := hide hr0
        have HL1 := hide hl1
        have HL2 := hide hl2
        have HL3 := hide hl3
        have hstop : readL cn f p r = (p, r) → readR t = ([], (p.length : Int), 4) := fun h => by
          have h2 := hL.out
          rw [h] at h2
          have h3 := HRD.out
          rw [← h2] at h3
          rw [h3, if_pos hr0]
        cases hpp : parP l1 with
        | none =>
          have HST := hide (hstop (readL_none (by rw [hl1]; exact hpp)))
          rw [hpp] at PW
          unfold parV z5 at PW
          clear hstop hl1 hl2 hl3 hr0 hpp htr
          go_wp2_with (first
            | (go_at_call 28; (with_reducible refine CT.out.mono ?_); rintro e w2 ⟨rfl, o2⟩; have O2 := hide o2; clear o2)
            | (go_at_call 29; (with_reducible refine (PW.out _ O2.out).mono ?_); rintro e w3 ⟨rfl, o3⟩; have O3 := hide (((hO.out.trans0 O2.out).trans0 o3).alloc (.cells #[.int .i64 0, .int .i64 0, .int .i64 0, .int .i64 0, .int .i64 0] 25)); clear o3))
          (try simp only [Exit.noGoto])
          go_ret3
          exact ⟨⟨none, 0, [], _, 4, rfl, HST.out, World.ownsRow_nil ..⟩, O3.out⟩
        | some i =>
          rw [hpp] at PW
          unfold parV at PW
          simp only at PW
          have MY := hide (fun W => may_any i cn W)
          obtain ⟨mb, hmb⟩ : ∃ mb, mayI i cn = mb := ⟨_, rfl⟩
          rw [hmb] at MY
          have hI5 : insV i = #[.int .i64 i.op, .int .i64 i.d, .int .i64 i.a, .int .i64 i.b, .int .i64 i.imm] := rfl
          rw [hI5] at PW MY
          have j1 : ¬ ((256 : Int) ≤ (p.length : Int)) ∨ (256 : Int) ≤ (p.length : Int) := by omega
          by_cases hgo : l3 = true ∧ mb = true ∧ p.length < 256
          · obtain ⟨h3t, hmt, hpl⟩ := hgo
            have hf1 : ∃ f', f = f' + 1 := ⟨f - 1, by have : r.length ≠ 0 := fun h => hr0 (List.eq_nil_of_length_eq_zero h); omega⟩
            obtain ⟨f', rfl⟩ := hf1
            have HL' := hide (show readL cn f' (p ++ [i]) l2 = RES by rw [← hL.out, readL_go hr0 (by rw [hl1]; exact hpp) ⟨by rw [hl3]; exact h3t, by rw [hmb]; exact hmt, hpl⟩, hl2])
            rw [h3t] at CT hcl
            rw [hmt] at MY
            simp only [if_true] at hcl
            have d6 : decide ((256 : Int) ≤ (p.length : Int)) = false := decide_eq_false (by omega)
            have d7 : decide (256 ≤ p.length) = false := decide_eq_false (by omega)
            have i6 : ¬ ((256 : Int) ≤ (p.length : Int)) := by omega
            have AP := hide (fun W (o : Only [] wr W) => app_ins W w.heap.size A c p i (hI.out.only0 o) (by omega) (by have := o.size; omega))
            rw [hI5] at AP
            have HGE := hide (own_ge hI.out)
            clear hstop hl1 hl2 hl3 hr0 hpp hmb hL htr j1 h3t hmt
            go_wp2_with (first
              | (go_at_call 28; (with_reducible refine CT.out.mono ?_); rintro e w2 ⟨rfl, o2⟩; have O2 := hide o2; clear o2)
              | (go_at_call 29; (with_reducible refine (PW.out _ O2.out).mono ?_); rintro e w3 ⟨rfl, o3⟩; have O3 := hide ((O2.out.trans0 o3).alloc (.cells #[.int .i64 i.op, .int .i64 i.d, .int .i64 i.a, .int .i64 i.b, .int .i64 i.imm] 25)); have b3 := Blk.new w3 25 #[.int .i64 i.op, .int .i64 i.d, .int .i64 i.a, .int .i64 i.b, .int .i64 i.imm]; have B3 := hide b3; have x0 := b3.cell 0; have x1 := b3.cell 1; have x2 := b3.cell 2; have x3 := b3.cell 3; have x4 := b3.cell 4; clear o3 b3)
              | (go_at_call 25; (with_reducible refine (MY.out _).mono ?_); rintro e w4 ⟨rfl, o4⟩; have b4 := B3.out.only o4 (by simp); have x0 := b4.cell 0; have x1 := b4.cell 1; have x2 := b4.cell 2; have x3 := b4.cell 3; have x4 := b4.cell 4; obtain ⟨g', c', w5, e5, r5, o5⟩ := AP.out w4 (O3.out.trans0 o4); have R5 := hide r5; have O5 := hide ((hO.out.trans0 (O3.out.trans0 o4)).trans o5 (fun x hx => .inr (HGE.out x hx).1)); clear o4 b4 r5 o5))
            go_roundw
            case rel => exact ⟨p ++ [i], l2, some ⟨g', 0, none⟩, c', f', by simp, rfl, by omega, by simp; omega, by omega, R5, HL', O5⟩
            case measure => simp [bs_size]; omega
          · have HST := hide (hstop (readL_stop (by rw [hl1]; exact hpp) (by rw [hl3, hmb]; exact hgo)))
            have hp256 : p.length < 256 ∨ p.length = 256 := by omega
            clear hstop hl1 hl2 hl3 hr0 hpp hmb hL htr j1
            have ARM : True := trivial
            cases l3 with
            | false =>
              go_wp2_with (first
                | (go_at_call 28; (with_reducible refine CT.out.mono ?_); rintro e w2 ⟨rfl, o2⟩; have O2 := hide o2; clear o2)
                | (go_at_call 29; (with_reducible refine (PW.out _ O2.out).mono ?_); rintro e w3 ⟨rfl, o3⟩; have O3 := hide ((hO.out.trans0 (O2.out.trans0 o3)).alloc (.cells #[.int .i64 i.op, .int .i64 i.d, .int .i64 i.a, .int .i64 i.b, .int .i64 i.imm] 25)); have b3 := Blk.new w3 25 #[.int .i64 i.op, .int .i64 i.d, .int .i64 i.a, .int .i64 i.b, .int .i64 i.imm]; have x0 := b3.cell 0; have x1 := b3.cell 1; have x2 := b3.cell 2; have x3 := b3.cell 3; have x4 := b3.cell 4; clear o3 b3)
                | (go_at_call 25; (with_reducible refine (MY.out _).mono ?_); rintro e w4 ⟨rfl, o4⟩; have O4 := hide (O3.out.trans0 o4); clear o4))
              (try simp only [Exit.noGoto])
              go_ret3
              exact ⟨⟨none, 0, [], _, 4, rfl, HST.out, World.ownsRow_nil ..⟩, O3.out⟩
            | true =>
              cases mb with
              | false =>
                go_wp2_with (first
                  | (go_at_call 28; (with_reducible refine CT.out.mono ?_); rintro e w2 ⟨rfl, o2⟩; have O2 := hide o2; clear o2)
                  | (go_at_call 29; (with_reducible refine (PW.out _ O2.out).mono ?_); rintro e w3 ⟨rfl, o3⟩; have O3 := hide ((hO.out.trans0 (O2.out.trans0 o3)).alloc (.cells #[.int .i64 i.op, .int .i64 i.d, .int .i64 i.a, .int .i64 i.b, .int .i64 i.imm] 25)); have b3 := Blk.new w3 25 #[.int .i64 i.op, .int .i64 i.d, .int .i64 i.a, .int .i64 i.b, .int .i64 i.imm]; have x0 := b3.cell 0; have x1 := b3.cell 1; have x2 := b3.cell 2; have x3 := b3.cell 3; have x4 := b3.cell 4; clear o3 b3)
                  | (go_at_call 25; (with_reducible refine (MY.out _).mono ?_); rintro e w4 ⟨rfl, o4⟩; have O4 := hide (O3.out.trans0 o4); clear o4))
                (try simp only [Exit.noGoto])
                go_ret3
                exact ⟨⟨none, 0, [], _, 4, rfl, HST.out, World.ownsRow_nil ..⟩, O4.out⟩
              | true =>
                have i6 : (256 : Int) ≤ (p.length : Int) := by have : ¬ p.length < 256 := fun h => hgo ⟨rfl, rfl, h⟩; omega
                have d6 : decide ((256 : Int) ≤ (p.length : Int)) = true := decide_eq_true i6
                have d7 : decide (256 ≤ p.length) = true := decide_eq_true (by omega)
                go_wp2_with (first
                  | (go_at_call 28; (with_reducible refine CT.out.mono ?_); rintro e w2 ⟨rfl, o2⟩; have O2 := hide o2; clear o2)
                  | (go_at_call 29; (with_reducible refine (PW.out _ O2.out).mono ?_); rintro e w3 ⟨rfl, o3⟩; have O3 := hide ((hO.out.trans0 (O2.out.trans0 o3)).alloc (.cells #[.int .i64 i.op, .int .i64 i.d, .int .i64 i.a, .int .i64 i.b, .int .i64 i.imm] 25)); have b3 := Blk.new w3 25 #[.int .i64 i.op, .int .i64 i.d, .int .i64 i.a, .int .i64 i.b, .int .i64 i.imm]; have x0 := b3.cell 0; have x1 := b3.cell 1; have x2 := b3.cell 2; have x3 := b3.cell 3; have x4 := b3.cell 4; clear o3 b3)
                  | (go_at_call 25; (with_reducible refine (MY.out _).mono ?_); rintro e w4 ⟨rfl, o4⟩; have O4 := hide (O3.out.trans0 o4); clear o4))
                (try simp only [Exit.noGoto])
                go_ret3
                exact ⟨⟨none, 0, [], _, 4, rfl, HST.out, World.ownsRow_nil ..⟩, O4.out⟩
  · have hte : ¬ (bs t).toList = [] := by rw [htl]; exact ht0
    have hie : (bs t).toList.isEmpty = false := by rw [htl]; simpa using ht0
    have SF := fun W => suf_any t (by omega) W
    cases hsf : Lib.hasSuffix t [10] with
    | true =>
      rw [if_neg (fun h => by rw [hsf] at h; exact absurd h.2 (by decide)), Int.add_zero] at hcn
      simp only [hcn] at CN
      have CN := hide CN
      rw [hsf] at SF
      have SF := hide SF
      clear hk0 htl hcn
      go_enter Tryz.func8, Tryz.ntmps8
      go_wp2_with fail
      apply wp_scope_straight
      go_wp2_with (first
        | (go_at_call 26; (with_reducible refine (CN.out _).mono ?_); rintro e w' ⟨rfl, hw⟩; obtain rfl := hw.symm; clear hw)
        | (go_at_call 27; (with_reducible refine (SF.out _).mono ?_); rintro e w' ⟨rfl, hw⟩; obtain rfl := hw.symm; clear hw))
      clear hte hie ht0 hsf SF
      apply wp_label
      go_wp2_with fail
      go_loopw [6, 7] (fun vp vr wr => ∃ (p : List Ins) (r : List UInt8) (A : Option Addr) (c f : Nat), vp = .slice A p.length c ∧ vr = .string (bs r) ∧ r.length ≤ t.length ∧ p.length ≤ 256 ∧ r.length ≤ f ∧ Hid (Is wr w.heap.size A c p) ∧ Hid (readL cn f p r = RES) ∧ Hid (Only [] w wr)) (fun _ vr _ => match vr with | .string b => b.size | _ => 0)
      case atStart => exact ⟨[], t, none, 0, t.length, rfl, rfl, Nat.le_refl _, by simp, Nat.le_refl _, hide (World.ownsRow_nil ..), HRES, hide (Only.refl _ _)⟩
      case round =>
        clear HRES CN
        obtain ⟨p, r, A, c, f, rfl, rfl, hrl, hp, hf, hI, hL, hO⟩ := hrel
        have htr : (bs r).toList = r := by rw [ByteArray.toList_eq, bs_list]
        by_cases hr0 : r = []
        · have hRS := hL.out
          rw [hr0, readL_nil] at hRS
          have HRS := hide hRS
          have e0 : bs r = ⟨#[]⟩ := by rw [hr0]; rfl
          rw [e0]
          clear hr0 hRS htr e0
          go_wp2_with fail
          have hR := HRD.out
          rw [← HRS.out] at hR
          (try simp only [Exit.noGoto])
          go_ret3
          exact ⟨⟨A, c, p, 0, 0, rfl, hR, hI.out⟩, hO.out⟩
        · have hne : ¬ (bs r).toList = [] := by rw [htr]; exact hr0
          have hne2 : ¬ r = [] := hr0
          have hne3 : (bs r).toList.isEmpty = false := by rw [htr]; simpa using hr0
          have CT := cut_any (bs r) 10 (by rw [bs_size]; omega) wr (HE.out.only hO.out)
          have hcl := cut_len 10 r
          simp only [bs_list] at CT
          obtain ⟨l1, hl1⟩ : ∃ x, (cutAt 10 r).1 = x := ⟨_, rfl⟩
          obtain ⟨l2, hl2⟩ : ∃ x, (cutAt 10 r).2.1 = x := ⟨_, rfl⟩
          obtain ⟨l3, hl3⟩ : ∃ x, (cutAt 10 r).2.2 = x := ⟨_, rfl⟩
          rw [hl1, hl2, hl3] at CT hcl
          have CT := hide (show Calls Tryz.prog 28 #[.string (bs r), .string ⟨#[10]⟩] wr fun e w' => e = .returned (.tuple #[.string (bs l1), .string (bs l2), .bool l3]) ∧ Only [] wr w' from CT)
          have hs0 := hO.out.size
          have PW := hide (fun W (o : Only [] wr W) => parse_walk l1 (by omega) W (HE.out.only (hO.out.trans0 o)) (by have := o.size; omega))
          have HNE := hide hr0
          have HL1 := hide hl1
          have HL2 := hide hl2
          have HL3 := hide hl3
          have hstop : readL cn f p r = (p, r) → readR t = ([], (p.length : Int), 4) := fun h => by
            have h2 := hL.out
            rw [h] at h2
            have h3 := HRD.out
            rw [← h2] at h3
            rw [h3, if_pos hr0]
          cases hpp : parP l1 with
          | none =>
            have HST := hide (hstop (readL_none (by rw [hl1]; exact hpp)))
            rw [hpp] at PW
            unfold parV z5 at PW
            clear hstop hl1 hl2 hl3 hr0 hpp htr
            go_wp2_with (first
              | (go_at_call 28; (with_reducible refine CT.out.mono ?_); rintro e w2 ⟨rfl, o2⟩; have O2 := hide o2; clear o2)
              | (go_at_call 29; (with_reducible refine (PW.out _ O2.out).mono ?_); rintro e w3 ⟨rfl, o3⟩; have O3 := hide (((hO.out.trans0 O2.out).trans0 o3).alloc (.cells #[.int .i64 0, .int .i64 0, .int .i64 0, .int .i64 0, .int .i64 0] 25)); clear o3))
            (try simp only [Exit.noGoto])
            go_ret3
            exact ⟨⟨none, 0, [], _, 4, rfl, HST.out, World.ownsRow_nil ..⟩, O3.out⟩
          | some i =>
            rw [hpp] at PW
            unfold parV at PW
            simp only at PW
            have MY := hide (fun W => may_any i cn W)
            obtain ⟨mb, hmb⟩ : ∃ mb, mayI i cn = mb := ⟨_, rfl⟩
            rw [hmb] at MY
            have hI5 : insV i = #[.int .i64 i.op, .int .i64 i.d, .int .i64 i.a, .int .i64 i.b, .int .i64 i.imm] := rfl
            rw [hI5] at PW MY
            have j1 : ¬ ((256 : Int) ≤ (p.length : Int)) ∨ (256 : Int) ≤ (p.length : Int) := by omega
            by_cases hgo : l3 = true ∧ mb = true ∧ p.length < 256
            · obtain ⟨h3t, hmt, hpl⟩ := hgo
              have hf1 : ∃ f', f = f' + 1 := ⟨f - 1, by have : r.length ≠ 0 := fun h => hr0 (List.eq_nil_of_length_eq_zero h); omega⟩
              obtain ⟨f', rfl⟩ := hf1
              have HL' := hide (show readL cn f' (p ++ [i]) l2 = RES by rw [← hL.out, readL_go hr0 (by rw [hl1]; exact hpp) ⟨by rw [hl3]; exact h3t, by rw [hmb]; exact hmt, hpl⟩, hl2])
              rw [h3t] at CT hcl
              rw [hmt] at MY
              simp only [if_true] at hcl
              have d6 : decide ((256 : Int) ≤ (p.length : Int)) = false := decide_eq_false (by omega)
              have d7 : decide (256 ≤ p.length) = false := decide_eq_false (by omega)
              have i6 : ¬ ((256 : Int) ≤ (p.length : Int)) := by omega
              have AP := hide (fun W (o : Only [] wr W) => app_ins W w.heap.size A c p i (hI.out.only0 o) (by omega) (by have := o.size; omega))
              rw [hI5] at AP
              have HGE := hide (own_ge hI.out)
              clear hstop hl1 hl2 hl3 hr0 hpp hmb hL htr j1 h3t hmt
              go_wp2_with (first
                | (go_at_call 28; (with_reducible refine CT.out.mono ?_); rintro e w2 ⟨rfl, o2⟩; have O2 := hide o2; clear o2)
                | (go_at_call 29; (with_reducible refine (PW.out _ O2.out).mono ?_); rintro e w3 ⟨rfl, o3⟩; have O3 := hide ((O2.out.trans0 o3).alloc (.cells #[.int .i64 i.op, .int .i64 i.d, .int .i64 i.a, .int .i64 i.b, .int .i64 i.imm] 25)); have b3 := Blk.new w3 25 #[.int .i64 i.op, .int .i64 i.d, .int .i64 i.a, .int .i64 i.b, .int .i64 i.imm]; have B3 := hide b3; have x0 := b3.cell 0; have x1 := b3.cell 1; have x2 := b3.cell 2; have x3 := b3.cell 3; have x4 := b3.cell 4; clear o3 b3)
                | (go_at_call 25; (with_reducible refine (MY.out _).mono ?_); rintro e w4 ⟨rfl, o4⟩; have b4 := B3.out.only o4 (by simp); have x0 := b4.cell 0; have x1 := b4.cell 1; have x2 := b4.cell 2; have x3 := b4.cell 3; have x4 := b4.cell 4; obtain ⟨g', c', w5, e5, r5, o5⟩ := AP.out w4 (O3.out.trans0 o4); have R5 := hide r5; have O5 := hide ((hO.out.trans0 (O3.out.trans0 o4)).trans o5 (fun x hx => .inr (HGE.out x hx).1)); clear o4 b4 r5 o5))
              go_roundw
              case rel => exact ⟨p ++ [i], l2, some ⟨g', 0, none⟩, c', f', by simp, rfl, by omega, by simp; omega, by omega, R5, HL', O5⟩
              case measure => simp [bs_size]; omega
            · have HST := hide (hstop (readL_stop (by rw [hl1]; exact hpp) (by rw [hl3, hmb]; exact hgo)))
              have hp256 : p.length < 256 ∨ p.length = 256 := by omega
              clear hstop hl1 hl2 hl3 hr0 hpp hmb hL htr j1
              have ARM : True := trivial
              cases l3 with
              | false =>
                go_wp2_with (first
                  | (go_at_call 28; (with_reducible refine CT.out.mono ?_); rintro e w2 ⟨rfl, o2⟩; have O2 := hide o2; clear o2)
                  | (go_at_call 29; (with_reducible refine (PW.out _ O2.out).mono ?_); rintro e w3 ⟨rfl, o3⟩; have O3 := hide ((hO.out.trans0 (O2.out.trans0 o3)).alloc (.cells #[.int .i64 i.op, .int .i64 i.d, .int .i64 i.a, .int .i64 i.b, .int .i64 i.imm] 25)); have b3 := Blk.new w3 25 #[.int .i64 i.op, .int .i64 i.d, .int .i64 i.a, .int .i64 i.b, .int .i64 i.imm]; have x0 := b3.cell 0; have x1 := b3.cell 1; have x2 := b3.cell 2; have x3 := b3.cell 3; have x4 := b3.cell 4; clear o3 b3)
                  | (go_at_call 25; (with_reducible refine (MY.out _).mono ?_); rintro e w4 ⟨rfl, o4⟩; have O4 := hide (O3.out.trans0 o4); clear o4))
                (try simp only [Exit.noGoto])
                go_ret3
                exact ⟨⟨none, 0, [], _, 4, rfl, HST.out, World.ownsRow_nil ..⟩, O3.out⟩
              | true =>
                cases mb with
                | false =>
                  go_wp2_with (first
                    | (go_at_call 28; (with_reducible refine CT.out.mono ?_); rintro e w2 ⟨rfl, o2⟩; have O2 := hide o2; clear o2)
                    | (go_at_call 29; (with_reducible refine (PW.out _ O2.out).mono ?_); rintro e w3 ⟨rfl, o3⟩; have O3 := hide ((hO.out.trans0 (O2.out.trans0 o3)).alloc (.cells #[.int .i64 i.op, .int .i64 i.d, .int .i64 i.a, .int .i64 i.b, .int .i64 i.imm] 25)); have b3 := Blk.new w3 25 #[.int .i64 i.op, .int .i64 i.d, .int .i64 i.a, .int .i64 i.b, .int .i64 i.imm]; have x0 := b3.cell 0; have x1 := b3.cell 1; have x2 := b3.cell 2; have x3 := b3.cell 3; have x4 := b3.cell 4; clear o3 b3)
                    | (go_at_call 25; (with_reducible refine (MY.out _).mono ?_); rintro e w4 ⟨rfl, o4⟩; have O4 := hide (O3.out.trans0 o4); clear o4))
                  (try simp only [Exit.noGoto])
                  go_ret3
                  exact ⟨⟨none, 0, [], _, 4, rfl, HST.out, World.ownsRow_nil ..⟩, O4.out⟩
                | true =>
                  have i6 : (256 : Int) ≤ (p.length : Int) := by have : ¬ p.length < 256 := fun h => hgo ⟨rfl, rfl, h⟩; omega
                  have d6 : decide ((256 : Int) ≤ (p.length : Int)) = true := decide_eq_true i6
                  have d7 : decide (256 ≤ p.length) = true := decide_eq_true (by omega)
                  go_wp2_with (first
                    | (go_at_call 28; (with_reducible refine CT.out.mono ?_); rintro e w2 ⟨rfl, o2⟩; have O2 := hide o2; clear o2)
                    | (go_at_call 29; (with_reducible refine (PW.out _ O2.out).mono ?_); rintro e w3 ⟨rfl, o3⟩; have O3 := hide ((hO.out.trans0 (O2.out.trans0 o3)).alloc (.cells #[.int .i64 i.op, .int .i64 i.d, .int .i64 i.a, .int .i64 i.b, .int .i64 i.imm] 25)); have b3 := Blk.new w3 25 #[.int .i64 i.op, .int .i64 i.d, .int .i64 i.a, .int .i64 i.b, .int .i64 i.imm]; have x0 := b3.cell 0; have x1 := b3.cell 1; have x2 := b3.cell 2; have x3 := b3.cell 3; have x4 := b3.cell 4; clear o3 b3)
                    | (go_at_call 25; (with_reducible refine (MY.out _).mono ?_); rintro e w4 ⟨rfl, o4⟩; have O4 := hide (O3.out.trans0 o4); clear o4))
                  (try simp only [Exit.noGoto])
                  go_ret3
                  exact ⟨⟨none, 0, [], _, 4, rfl, HST.out, World.ownsRow_nil ..⟩, O4.out⟩
    | false =>
      rw [if_pos ⟨ht0, hsf⟩] at hcn
      have CN := hide CN
      have hwr2 : IntKind.i64.wrap ((k0 : Int) + 1) = cn := by rw [← hcn]; exact IntWalk.i64_in _ (by omega)
      rw [hsf] at SF
      have SF := hide SF
      clear hk0 htl hcn
      go_enter Tryz.func8, Tryz.ntmps8
      go_wp2_with fail
      apply wp_scope_straight
      go_wp2_with (first
        | (go_at_call 26; (with_reducible refine (CN.out _).mono ?_); rintro e w' ⟨rfl, hw⟩; obtain rfl := hw.symm; clear hw)
        | (go_at_call 27; (with_reducible refine (SF.out _).mono ?_); rintro e w' ⟨rfl, hw⟩; obtain rfl := hw.symm; clear hw))
      clear hte hie ht0 hsf SF hwr2
      apply wp_label
      go_wp2_with fail
      go_loopw [6, 7] (fun vp vr wr => ∃ (p : List Ins) (r : List UInt8) (A : Option Addr) (c f : Nat), vp = .slice A p.length c ∧ vr = .string (bs r) ∧ r.length ≤ t.length ∧ p.length ≤ 256 ∧ r.length ≤ f ∧ Hid (Is wr w.heap.size A c p) ∧ Hid (readL cn f p r = RES) ∧ Hid (Only [] w wr)) (fun _ vr _ => match vr with | .string b => b.size | _ => 0)
      case atStart => exact ⟨[], t, none, 0, t.length, rfl, rfl, Nat.le_refl _, by simp, Nat.le_refl _, hide (World.ownsRow_nil ..), HRES, hide (Only.refl _ _)⟩
      case round =>
        clear HRES CN
        obtain ⟨p, r, A, c, f, rfl, rfl, hrl, hp, hf, hI, hL, hO⟩ := hrel
        have htr : (bs r).toList = r := by rw [ByteArray.toList_eq, bs_list]
        by_cases hr0 : r = []
        · have hRS := hL.out
          rw [hr0, readL_nil] at hRS
          have HRS := hide hRS
          have e0 : bs r = ⟨#[]⟩ := by rw [hr0]; rfl
          rw [e0]
          clear hr0 hRS htr e0
          go_wp2_with fail
          have hR := HRD.out
          rw [← HRS.out] at hR
          (try simp only [Exit.noGoto])
          go_ret3
          exact ⟨⟨A, c, p, 0, 0, rfl, hR, hI.out⟩, hO.out⟩
        · have hne : ¬ (bs r).toList = [] := by rw [htr]; exact hr0
          have hne2 : ¬ r = [] := hr0
          have hne3 : (bs r).toList.isEmpty = false := by rw [htr]; simpa using hr0
          have CT := cut_any (bs r) 10 (by rw [bs_size]; omega) wr (HE.out.only hO.out)
          have hcl := cut_len 10 r
          simp only [bs_list] at CT
          obtain ⟨l1, hl1⟩ : ∃ x, (cutAt 10 r).1 = x := ⟨_, rfl⟩
          obtain ⟨l2, hl2⟩ : ∃ x, (cutAt 10 r).2.1 = x := ⟨_, rfl⟩
          obtain ⟨l3, hl3⟩ : ∃ x, (cutAt 10 r).2.2 = x := ⟨_, rfl⟩
          rw [hl1, hl2, hl3] at CT hcl
          have CT := hide (show Calls Tryz.prog 28 #[.string (bs r), .string ⟨#[10]⟩] wr fun e w' => e = .returned (.tuple #[.string (bs l1), .string (bs l2), .bool l3]) ∧ Only [] wr w' from CT)
          have hs0 := hO.out.size
          have PW := hide (fun W (o : Only [] wr W) => parse_walk l1 (by omega) W (HE.out.only (hO.out.trans0 o)) (by have := o.size; omega))
          have HNE := hide hr0
          have HL1 := hide hl1
          have HL2 := hide hl2
          have HL3 := hide hl3
          have hstop : readL cn f p r = (p, r) → readR t = ([], (p.length : Int), 4) := fun h => by
            have h2 := hL.out
            rw [h] at h2
            have h3 := HRD.out
            rw [← h2] at h3
            rw [h3, if_pos hr0]
          cases hpp : parP l1 with
          | none =>
            have HST := hide (hstop (readL_none (by rw [hl1]; exact hpp)))
            rw [hpp] at PW
            unfold parV z5 at PW
            clear hstop hl1 hl2 hl3 hr0 hpp htr
            go_wp2_with (first
              | (go_at_call 28; (with_reducible refine CT.out.mono ?_); rintro e w2 ⟨rfl, o2⟩; have O2 := hide o2; clear o2)
              | (go_at_call 29; (with_reducible refine (PW.out _ O2.out).mono ?_); rintro e w3 ⟨rfl, o3⟩; have O3 := hide (((hO.out.trans0 O2.out).trans0 o3).alloc (.cells #[.int .i64 0, .int .i64 0, .int .i64 0, .int .i64 0, .int .i64 0] 25)); clear o3))
            (try simp only [Exit.noGoto])
            go_ret3
            exact ⟨⟨none, 0, [], _, 4, rfl, HST.out, World.ownsRow_nil ..⟩, O3.out⟩
          | some i =>
            rw [hpp] at PW
            unfold parV at PW
            simp only at PW
            have MY := hide (fun W => may_any i cn W)
            obtain ⟨mb, hmb⟩ : ∃ mb, mayI i cn = mb := ⟨_, rfl⟩
            rw [hmb] at MY
            have hI5 : insV i = #[.int .i64 i.op, .int .i64 i.d, .int .i64 i.a, .int .i64 i.b, .int .i64 i.imm] := rfl
            rw [hI5] at PW MY
            have j1 : ¬ ((256 : Int) ≤ (p.length : Int)) ∨ (256 : Int) ≤ (p.length : Int) := by omega
            by_cases hgo : l3 = true ∧ mb = true ∧ p.length < 256
            · obtain ⟨h3t, hmt, hpl⟩ := hgo
              have hf1 : ∃ f', f = f' + 1 := ⟨f - 1, by have : r.length ≠ 0 := fun h => hr0 (List.eq_nil_of_length_eq_zero h); omega⟩
              obtain ⟨f', rfl⟩ := hf1
              have HL' := hide (show readL cn f' (p ++ [i]) l2 = RES by rw [← hL.out, readL_go hr0 (by rw [hl1]; exact hpp) ⟨by rw [hl3]; exact h3t, by rw [hmb]; exact hmt, hpl⟩, hl2])
              rw [h3t] at CT hcl
              rw [hmt] at MY
              simp only [if_true] at hcl
              have d6 : decide ((256 : Int) ≤ (p.length : Int)) = false := decide_eq_false (by omega)
              have d7 : decide (256 ≤ p.length) = false := decide_eq_false (by omega)
              have i6 : ¬ ((256 : Int) ≤ (p.length : Int)) := by omega
              have AP := hide (fun W (o : Only [] wr W) => app_ins W w.heap.size A c p i (hI.out.only0 o) (by omega) (by have := o.size; omega))
              rw [hI5] at AP
              have HGE := hide (own_ge hI.out)
              clear hstop hl1 hl2 hl3 hr0 hpp hmb hL htr j1 h3t hmt
              go_wp2_with (first
                | (go_at_call 28; (with_reducible refine CT.out.mono ?_); rintro e w2 ⟨rfl, o2⟩; have O2 := hide o2; clear o2)
                | (go_at_call 29; (with_reducible refine (PW.out _ O2.out).mono ?_); rintro e w3 ⟨rfl, o3⟩; have O3 := hide ((O2.out.trans0 o3).alloc (.cells #[.int .i64 i.op, .int .i64 i.d, .int .i64 i.a, .int .i64 i.b, .int .i64 i.imm] 25)); have b3 := Blk.new w3 25 #[.int .i64 i.op, .int .i64 i.d, .int .i64 i.a, .int .i64 i.b, .int .i64 i.imm]; have B3 := hide b3; have x0 := b3.cell 0; have x1 := b3.cell 1; have x2 := b3.cell 2; have x3 := b3.cell 3; have x4 := b3.cell 4; clear o3 b3)
                | (go_at_call 25; (with_reducible refine (MY.out _).mono ?_); rintro e w4 ⟨rfl, o4⟩; have b4 := B3.out.only o4 (by simp); have x0 := b4.cell 0; have x1 := b4.cell 1; have x2 := b4.cell 2; have x3 := b4.cell 3; have x4 := b4.cell 4; obtain ⟨g', c', w5, e5, r5, o5⟩ := AP.out w4 (O3.out.trans0 o4); have R5 := hide r5; have O5 := hide ((hO.out.trans0 (O3.out.trans0 o4)).trans o5 (fun x hx => .inr (HGE.out x hx).1)); clear o4 b4 r5 o5))
              go_roundw
              case rel => exact ⟨p ++ [i], l2, some ⟨g', 0, none⟩, c', f', by simp, rfl, by omega, by simp; omega, by omega, R5, HL', O5⟩
              case measure => simp [bs_size]; omega
            · have HST := hide (hstop (readL_stop (by rw [hl1]; exact hpp) (by rw [hl3, hmb]; exact hgo)))
              have hp256 : p.length < 256 ∨ p.length = 256 := by omega
              clear hstop hl1 hl2 hl3 hr0 hpp hmb hL htr j1
              have ARM : True := trivial
              cases l3 with
              | false =>
                go_wp2_with (first
                  | (go_at_call 28; (with_reducible refine CT.out.mono ?_); rintro e w2 ⟨rfl, o2⟩; have O2 := hide o2; clear o2)
                  | (go_at_call 29; (with_reducible refine (PW.out _ O2.out).mono ?_); rintro e w3 ⟨rfl, o3⟩; have O3 := hide ((hO.out.trans0 (O2.out.trans0 o3)).alloc (.cells #[.int .i64 i.op, .int .i64 i.d, .int .i64 i.a, .int .i64 i.b, .int .i64 i.imm] 25)); have b3 := Blk.new w3 25 #[.int .i64 i.op, .int .i64 i.d, .int .i64 i.a, .int .i64 i.b, .int .i64 i.imm]; have x0 := b3.cell 0; have x1 := b3.cell 1; have x2 := b3.cell 2; have x3 := b3.cell 3; have x4 := b3.cell 4; clear o3 b3)
                  | (go_at_call 25; (with_reducible refine (MY.out _).mono ?_); rintro e w4 ⟨rfl, o4⟩; have O4 := hide (O3.out.trans0 o4); clear o4))
                (try simp only [Exit.noGoto])
                go_ret3
                exact ⟨⟨none, 0, [], _, 4, rfl, HST.out, World.ownsRow_nil ..⟩, O3.out⟩
              | true =>
                cases mb with
                | false =>
                  go_wp2_with (first
                    | (go_at_call 28; (with_reducible refine CT.out.mono ?_); rintro e w2 ⟨rfl, o2⟩; have O2 := hide o2; clear o2)
                    | (go_at_call 29; (with_reducible refine (PW.out _ O2.out).mono ?_); rintro e w3 ⟨rfl, o3⟩; have O3 := hide ((hO.out.trans0 (O2.out.trans0 o3)).alloc (.cells #[.int .i64 i.op, .int .i64 i.d, .int .i64 i.a, .int .i64 i.b, .int .i64 i.imm] 25)); have b3 := Blk.new w3 25 #[.int .i64 i.op, .int .i64 i.d, .int .i64 i.a, .int .i64 i.b, .int .i64 i.imm]; have x0 := b3.cell 0; have x1 := b3.cell 1; have x2 := b3.cell 2; have x3 := b3.cell 3; have x4 := b3.cell 4; clear o3 b3)
                    | (go_at_call 25; (with_reducible refine (MY.out _).mono ?_); rintro e w4 ⟨rfl, o4⟩; have O4 := hide (O3.out.trans0 o4); clear o4))
                  (try simp only [Exit.noGoto])
                  go_ret3
                  exact ⟨⟨none, 0, [], _, 4, rfl, HST.out, World.ownsRow_nil ..⟩, O4.out⟩
                | true =>
                  have i6 : (256 : Int) ≤ (p.length : Int) := by have : ¬ p.length < 256 := fun h => hgo ⟨rfl, rfl, h⟩; omega
                  have d6 : decide ((256 : Int) ≤ (p.length : Int)) = true := decide_eq_true i6
                  have d7 : decide (256 ≤ p.length) = true := decide_eq_true (by omega)
                  go_wp2_with (first
                    | (go_at_call 28; (with_reducible refine CT.out.mono ?_); rintro e w2 ⟨rfl, o2⟩; have O2 := hide o2; clear o2)
                    | (go_at_call 29; (with_reducible refine (PW.out _ O2.out).mono ?_); rintro e w3 ⟨rfl, o3⟩; have O3 := hide ((hO.out.trans0 (O2.out.trans0 o3)).alloc (.cells #[.int .i64 i.op, .int .i64 i.d, .int .i64 i.a, .int .i64 i.b, .int .i64 i.imm] 25)); have b3 := Blk.new w3 25 #[.int .i64 i.op, .int .i64 i.d, .int .i64 i.a, .int .i64 i.b, .int .i64 i.imm]; have x0 := b3.cell 0; have x1 := b3.cell 1; have x2 := b3.cell 2; have x3 := b3.cell 3; have x4 := b3.cell 4; clear o3 b3)
                    | (go_at_call 25; (with_reducible refine (MY.out _).mono ?_); rintro e w4 ⟨rfl, o4⟩; have O4 := hide (O3.out.trans0 o4); clear o4))
                  (try simp only [Exit.noGoto])
                  go_ret3
                  exact ⟨⟨none, 0, [], _, 4, rfl, HST.out, World.ownsRow_nil ..⟩, O4.out⟩
end Go.Proofs.YtmaljajdmgkakaaGreatDoor
