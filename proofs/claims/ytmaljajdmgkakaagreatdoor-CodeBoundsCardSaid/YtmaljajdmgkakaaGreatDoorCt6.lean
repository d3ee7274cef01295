/- Code: the walks of wire.Take, of Take. Condition: the bytes lie in memory. -/
import Derived.Test.YtmaljajdmgkakaaGreatDoorCt5
import Derived.Test.YtmaljajdmgkakaaGreatDoorCdD
namespace Go.Proofs.YtmaljajdmgkakaaGreatDoor
open Go.RowKit
set_option linter.unusedVariables false
set_option linter.all false
set_option maxRecDepth 20000
attribute [local go_sem ↓] app_hide

def noI : Ins := ⟨0, 0, 0, 0, 0⟩
/-- A list's instruction at a place. -/
def fOf (p : List Ins) (k : Nat) : Ins := p.getD k noI
theorem GI_get : ∀ (p : List Ins) (k q : Nat), k < p.length → q < 5 → (GI p)[k * 5 + q]? = (insV (fOf p k))[q]?
  | [], k, q, hk, _ => absurd hk (by simp)
  | i :: p, 0, q, _, hq => by
    have : GI (i :: p) = (insV i).toList ++ GI p := by simp [GI]
    rw [this, List.getElem?_append_left (by simp [insV]; omega)]
    simp [fOf]
  | i :: p, k + 1, q, hk, hq => by
    have h1 : GI (i :: p) = (insV i).toList ++ GI p := by simp [GI]
    have h2 := GI_get p k q (by simpa using hk) hq
    rw [h1, List.getElem?_append_right (by simp [insV]; omega)]
    have h3 : (k + 1) * 5 + q - (insV i).toList.length = k * 5 + q := by simp [insV]; omega
    rw [h3, h2]
    rfl
theorem is_at {w : World} {B : Nat} {A : Option Addr} {c : Nat} {p : List Ins} (h : Is w B A c p) : InsAt w A p.length (fOf p) := fun k hk => by
  obtain ⟨g, rfl, h1, h2⟩ := own_cell h (by omega)
  have hh := fun q (hq : q < 5) => (h1 (k * 5 + q) (by omega)).trans (GI_get p k q hk hq)
  have e : (⟨g, 0, none⟩ : Addr).add (k * 5) = ⟨g, k * 5, none⟩ := by rw [add_mk, Nat.zero_add]
  refine ⟨_, rfl, ?_, ?_, ?_, ?_, ?_⟩
  all_goals simp only [e]
  · exact hh 0 (by omega)
  · exact hh 1 (by omega)
  · exact hh 2 (by omega)
  · exact hh 3 (by omega)
  · exact hh 4 (by omega)
/-- Instructions, one behind the other, as long as there is no error. -/
def takeL : Nat → List Ins → Int → List UInt8 → List Ins × Int × List UInt8
  | 0, p, e, l => (p, e, l)
  | n + 1, p, e, l => if e = 0 then takeL n (p ++ [(oneR l).1]) (oneR l).2.1 (l.drop (oneR l).2.2) else (p, e, l)
theorem takeL_err (n : Nat) (p : List Ins) (e : Int) (l : List UInt8) (h : e ≠ 0) : takeL n p e l = (p, e, l) := by
  cases n with
  | zero => rfl
  | succ n => unfold takeL; rw [if_neg h]
/-- What wire.Take answers at bytes: instructions, the error, what is left. -/
def takeW (bs : List UInt8) : List Ins × Int × List UInt8 :=
  if (resC 256 bs).2.1 = 0 then takeL (resC 256 bs).1.toNat [] 0 (bs.drop (resC 256 bs).2.2) else ([], (resC 256 bs).2.1, bs)
theorem eq80 (w : World) : (binOp .eql 80 (.func (.func 32) #[] #[]) .nilFunc).run Tryz.prog w = .ok (.bool false) w := by kernel_rfl
def Taken (w : World) (g gb cap : Nat) (bs : List UInt8) (e : Ending) (w' : World) : Prop :=
  Only [g] w w' ∧ if (takeW bs).2.1 = 0 then ∃ (A : Option Addr) (c at_ : Nat), e = .returned (.tuple #[.slice A (takeW bs).1.length c, .int .i64 0]) ∧ Is w' w.heap.size A c (takeW bs).1 ∧ Rd w' g gb cap bs at_ ∧ bs.drop at_ = (takeW bs).2.2
    else e = .returned (.tuple #[.slice none 0 0, .int .i64 (takeW bs).2.1])
theorem oneR_le (l : List UInt8) : (oneR l).2.2 ≤ l.length := by
  have h := fun l => resN_le l
  unfold oneR smR
  simp only
  have h1 := h l
  obtain ⟨k1, hk1⟩ : ∃ k, (resN l).2.2 = k := ⟨_, rfl⟩
  rw [hk1] at h1 ⊢
  have h2 := h (l.drop k1)
  obtain ⟨k2, hk2⟩ : ∃ k, (resN (l.drop k1)).2.2 = k := ⟨_, rfl⟩
  rw [hk2] at h2 ⊢
  have h3 := h (l.drop (k1 + k2))
  obtain ⟨k3, hk3⟩ : ∃ k, (resN (l.drop (k1 + k2))).2.2 = k := ⟨_, rfl⟩
  rw [hk3] at h3 ⊢
  have h4 := h (l.drop (k1 + k2 + k3))
  obtain ⟨k4, hk4⟩ : ∃ k, (resN (l.drop (k1 + k2 + k3))).2.2 = k := ⟨_, rfl⟩
  rw [hk4] at h4 ⊢
  have h5 := h (l.drop (k1 + k2 + k3 + k4))
  simp only [List.length_drop] at h2 h3 h4 h5
  omega
set_option maxHeartbeats 8000000 in
theorem wtake_any {g gb cap : Nat} {bs : List UInt8} {w : World} (h : Rd w g gb cap bs 0) : Calls Tryz.prog 31 #[.pointer (some ⟨g, 0, none⟩), .int .i64 256, .func (.func 32) #[] #[]] w (Taken w g gb cap bs) := by
  have TY := hide (there_yes h)
  have CT := count_any 256 (by decide) h
  unfold CountRead at CT
  rw [List.drop_zero] at CT
  have hF := resC_facts 256 bs
  obtain ⟨n, hn⟩ : ∃ n : Nat, (resC 256 bs).1 = n := ⟨(resC 256 bs).1.toNat, by omega⟩
  have hn256 : n ≤ 256 := by have := hF.2.2.1 (by decide); omega
  obtain ⟨l0, hl0⟩ : ∃ l, bs.drop (resC 256 bs).2.2 = l := ⟨_, rfl⟩
  have htw : takeW bs = if (resC 256 bs).2.1 = 0 then takeL n [] 0 l0 else ([], (resC 256 bs).2.1, bs) := by unfold takeW; rw [hn, hl0]; rfl
  obtain ⟨er, her⟩ : ∃ e, (resC 256 bs).2.1 = e := ⟨_, rfl⟩
  obtain ⟨k0, hk0⟩ : ∃ k, (resC 256 bs).2.2 = k := ⟨_, rfl⟩
  have hk0l : k0 ≤ bs.length := by rw [← hk0]; exact hF.1
  rw [hn, her, hk0] at CT
  rw [her] at htw
  rw [hk0] at hl0
  simp only [Nat.zero_add] at CT
  have h1 := h.k1
  have e80 := eq80
  have CT := hide CT
  have HTW := hide htw
  have HL0 := hide hl0
  obtain ⟨hlg, hlb⟩ := h.lt
  have HLT := hide (show g < w.heap.size ∧ gb < w.heap.size from ⟨hlg, hlb⟩)
  clear hF hn her hk0 h htw hl0 hlg hlb
  go_enter Tryz.func31, Tryz.ntmps31
  go_wp2_with (first
    | (go_at_call 72; (with_reducible refine TY.out.mono ?_); rintro e w1 ⟨rfl, rfl⟩; clear TY)
    | (go_at_call 73; (with_reducible refine CT.out.mono ?_); rintro e w2 ⟨rfl, o, r⟩; have O1 := hide (o.alloc (.cells #[] 25)); have R1 := hide (r.only0 ((Only.refl [] w2).alloc (.cells #[] 25))); have BR := hide (Blk.new w2 25 #[]); have HS := hide o.size; clear CT h1 o r))
  have IS := hide (show Is (w2.alloc (.cells #[] 25)) w.heap.size (some ⟨w2.heap.size, 0, none⟩) 0 [] from ⟨by simp [GI], .inr ⟨w2.heap.size, 0, #[], rfl, HS.out, BR.out, by simp, by unfold maxLen; omega, by simp, by simp [GI]⟩⟩)
  obtain ⟨RS, hRS⟩ : ∃ RS, (if er = 0 then takeL n [] 0 l0 else ([], er, bs)) = RS := ⟨_, rfl⟩
  rw [hRS] at HTW
  have HT0 := hide (show takeL n [] er l0 = (RS.1, RS.2.1, if er = 0 then RS.2.2 else l0) from by
    rw [← hRS]
    by_cases h0 : er = 0
    · rw [if_pos h0, if_pos h0, h0]
    · rw [if_neg h0, if_neg h0, takeL_err _ _ _ _ h0])
  have HRS := hide (show er = 0 ∨ ¬ RS.2.1 = 0 from by
    by_cases h0 : er = 0
    · exact .inl h0
    · refine .inr ?_; rw [← hRS, if_neg h0]; exact h0)
  clear BR HS hRS
  go_loopw [10, 11, 12] (fun v10 v11 v12 wr => ∃ (q c at_ : Nat) (e : Int) (p : List Ins) (A : Option Addr), q ≤ n ∧ p.length = q ∧ v10 = .int .i64 e ∧ v11 = .slice A p.length c ∧ v12 = .int .i64 q ∧ Hid (Only [g] w wr) ∧ Hid (Rd wr g gb cap bs at_) ∧ Hid (Is wr w.heap.size A c p) ∧ Hid (takeL (n - q) p e (bs.drop at_) = (RS.1, RS.2.1, if er = 0 then RS.2.2 else l0))) (fun _ _ v12 _ => n - (intOf v12).toNat)
  case atStart => exact ⟨0, 0, k0, er, [], _, by omega, rfl, rfl, rfl, rfl, O1, R1, IS, by rw [HL0.out]; exact HT0⟩
  case round =>
    clear O1 R1 IS HT0
    obtain ⟨q, c, at_, e, p, A, hq, hpq, rfl, rfl, rfl, hO, hR, hI, hT⟩ := hrel
    have hIge := own_ge hI.out
    by_cases he : e = 0
    · subst he
      by_cases hqn : q < n
      · obtain ⟨l, hl⟩ : ∃ l, bs.drop at_ = l := ⟨_, rfl⟩
        have hdr : ∀ k, bs.drop (at_ + k) = l.drop k := fun k => by rw [← hl, List.drop_drop]
        have hT' := hT.out
        rw [hl, show n - q = (n - (q + 1)) + 1 by omega] at hT'
        unfold takeL at hT'
        rw [if_pos rfl] at hT'
        obtain ⟨X, hX⟩ : ∃ X, wr.heap.size = X := ⟨_, rfl⟩
        have oA := (Only.refl [] wr).alloc (.cells #[.int .i64 0, .int .i64 0, .int .i64 0, .int .i64 0, .int .i64 0] 25)
        have bX := Blk.new wr 25 #[.int .i64 0, .int .i64 0, .int .i64 0, .int .i64 0, .int .i64 0]
        have RV := hR.out.only0 oA
        have IV := own_only' hI.out oA (by simp)
        have ON := one_any RV
        rw [hl] at ON
        obtain ⟨⟨⟨o, d, a', b', m⟩, er', k⟩, hone⟩ : ∃ x, oneR l = x := ⟨_, rfl⟩
        rw [hone] at ON hT'
        simp only at ON hT'
        rw [← hdr k] at hT'
        have hgX : g < X ∧ gb < X := by have := hR.out.lt; omega
        have hHX := hO.out.size
        obtain ⟨V, hV⟩ : ∃ V, wr.alloc (.cells #[.int .i64 0, .int .i64 0, .int .i64 0, .int .i64 0, .int .i64 0] 25) = V := ⟨_, rfl⟩
        rw [hV] at oA bX RV IV ON
        rw [hX] at bX
        have hVs := oA.size
        unfold insV at ON
        simp only at ON
        have HXE := hide hX
        have HVE := hide hV
        have ON := hide ON
        have BX := hide bX
        have OV := hide (hO.out.trans0 oA)
        have IV := hide IV
        have HT2 := hide hT'
        have HGX := hide hgX
        have HSX := hide (show w.heap.size ≤ X by omega)
        have HIX := hide (show ∀ y ∈ blkOf A, y < X ∧ w.heap.size ≤ y from fun y hy => by have := hIge y hy; omega)
        have j1 : (q : Int) < (n : Int) := by omega
        have hp := hpq
        clear hl hdr hT' hX oA bX RV hone hV hVs hHX hgX hT hR hI hO hIge
        go_wp2_with (go_at_call 32; rw [HXE.out, HVE.out]; (with_reducible refine ON.out.mono ?_); rintro e w3 ⟨rfl, o3, r3⟩; have bX3 := BX.out.only o3 (by have := HGX.out; simp; omega); have x0 := bX3.cell 0; have x1 := bX3.cell 1; have x2 := bX3.cell 2; have x3 := bX3.cell 3; have x4 := bX3.cell 4; have y0 := bX3.frozen 0; have y1 := bX3.frozen 1; have y2 := bX3.frozen 2; have y3 := bX3.frozen 3; have y4 := bX3.frozen 4; have oS : Only [X] w3 ((((((w3).setCell ⟨X, 0, none⟩ (.int .i64 o)).setCell ⟨X, 1, none⟩ (.int .i64 d)).setCell ⟨X, 2, none⟩ (.int .i64 a')).setCell ⟨X, 3, none⟩ (.int .i64 b')).setCell ⟨X, 4, none⟩ (.int .i64 m)) := ((((((Only.refl [X] w3)).setCell (p := ⟨X, 0, none⟩) (.inl (by simp)) (.int .i64 o)).setCell (p := ⟨X, 1, none⟩) (.inl (by simp)) (.int .i64 d)).setCell (p := ⟨X, 2, none⟩) (.inl (by simp)) (.int .i64 a')).setCell (p := ⟨X, 3, none⟩) (.inl (by simp)) (.int .i64 b')).setCell (p := ⟨X, 4, none⟩) (.inl (by simp)) (.int .i64 m); have I5 := own_only' (own_only' IV.out o3 (fun y hy => by have := HIX.out y hy; have := HLT.out; simp; omega)) oS (fun y hy => by have := HIX.out y hy; simp; omega); obtain ⟨g', c', w6, hrun, i6, o6⟩ := app_ins ((((((w3).setCell ⟨X, 0, none⟩ (.int .i64 o)).setCell ⟨X, 1, none⟩ (.int .i64 d)).setCell ⟨X, 2, none⟩ (.int .i64 a')).setCell ⟨X, 3, none⟩ (.int .i64 b')).setCell ⟨X, 4, none⟩ (.int .i64 m)) w.heap.size A c p ⟨o, d, a', b', m⟩ I5 (by omega) (by have := OV.out.size; have := o3.size; have := oS.size; omega); unfold insV at hrun; simp only at hrun; rw [hp, show ((((((w3).setCell ⟨X, 0, none⟩ (.int .i64 o)).setCell ⟨X, 1, none⟩ (.int .i64 d)).setCell ⟨X, 2, none⟩ (.int .i64 a')).setCell ⟨X, 3, none⟩ (.int .i64 b')).setCell ⟨X, 4, none⟩ (.int .i64 m)).heap.size = w3.heap.size by simp [World.setCell]] at hrun; have I6 := hide i6; have R6 := hide ((r3.only oS (by have := HGX.out; simp; omega) (by have := HGX.out; simp; omega)).only o6 (fun hy => by have := HIX.out _ hy; have := HLT.out; omega) (fun hy => by have := HIX.out _ hy; have := HLT.out; omega)); have O6 := hide ((((OV.out.mono (T := [g]) (by simp)).trans' o3).trans oS (fun y hy => .inr (by have := HSX.out; simp at hy; omega))).trans o6 (fun y hy => .inr (HIX.out y hy).2)); clear o3 r3 bX3 oS I5 i6 o6)
        go_roundw
        case rel => exact ⟨q + 1, c', at_ + k, er', p ++ [⟨o, d, a', b', m⟩], some ⟨g', 0, none⟩, by omega, by simp; omega, rfl, by simp; omega, by go_num, O6, R6, I6, HT2⟩
        case measure => simp [intOf]; omega
      · obtain rfl : n = q := by omega
        have hT' := hT.out
        rw [Nat.sub_self] at hT'
        unfold takeL at hT'
        simp only [Prod.mk.injEq] at hT'
        obtain ⟨t1, t2, t3⟩ := hT'
        have he0 : er = 0 := by rcases HRS.out with h | h; exact h; exact absurd t2.symm h
        rw [if_pos he0] at t3
        have T1 := hide t1
        have T2 := hide t2
        have T3 := hide t3
        clear t1 t2 t3 hqn hq he0
        go_wp2_with fail
        go_ret2
        unfold Taken
        refine ⟨hO.out, ?_⟩
        rw [HTW.out, if_pos T2.out.symm]
        refine ⟨A, c, at_, by rw [← T1.out]; rfl, by rw [← T1.out]; exact hI.out, hR.out, T3.out⟩
    · have hT' := hT.out
      rw [takeL_err _ _ _ _ he] at hT'
      simp only [Prod.mk.injEq] at hT'
      have T2 := hide hT'.2.1
      have k1 := hR.out.k1
      have f1 := hR.out.hdr.frozen 1
      have eb : (e == 0) = false := by simpa using he
      have HNE := hide he
      clear hT' hIge he
      go_wp2_with fail
      go_ret2
      unfold Taken
      refine ⟨hO.out.setCell (p := ⟨g, 1, none⟩) (.inl (by simp)) _, ?_⟩
      rw [HTW.out, if_neg (by rw [← T2.out]; exact HNE.out), ← T2.out]
      rfl
theorem chk_ok {n : Nat} {f : Nat → Ins} (h : badP n f = false) : chkV n f = .tuple #[.int .i64 0, .int .i64 0] := by
  unfold badP at h
  simp at h
  unfold chkV
  rw [if_neg (by omega), if_neg (by omega)]
/-- The program of bytes. -/
def takeF (bs : List UInt8) : Option (List Ins) := if (takeW bs).2.1 = 0 ∧ badP (takeW bs).1.length (fOf (takeW bs).1) = false ∧ (takeW bs).2.2 = [] then some (takeW bs).1 else none
def TakenF (w : World) (r : Option (List Ins)) (e : Ending) (w' : World) : Prop := Only [] w w' ∧ match r with
  | none => e = .returned (.tuple #[.slice none 0 0, .int .i64 4])
  | some p => ∃ (A : Option Addr) (c : Nat), e = .returned (.tuple #[.slice A p.length c, .int .i64 0]) ∧ Is w' w.heap.size A c p
set_option maxHeartbeats 4000000 in
theorem take_any (A : Option Addr) (n c : Nat) (ds : List UInt8) (w : World) (hl : ds.length = n) (hn : n ≤ 140737488351300) (hs : Src w A ds) : Calls Tryz.prog 9 #[.slice A n c] w (TakenF w (takeF ds)) := by
  have OP := hide (open_any A n c ds w hl hn hs)
  clear hl hn hs
  go_enter Tryz.func9, Tryz.ntmps9
  go_wp2_with (go_at_call 30; (with_reducible refine OP.out.mono ?_); intro e w1 hop; obtain ⟨o, g, gb, cap, rfl, r, hg, hgb⟩ := hop; have TK := hide (wtake_any r); have O1 := hide o; have HG := hide hg; clear o r hg hgb; try skip)
  refine TK.out.mono ?_
  intro e w2 htk
  obtain ⟨o2, ht⟩ := htk
  have O2 := hide ((O1.out.mono (T := [g]) (by simp)).trans' o2)
  have OF := hide (O2.out.mono (T := []) (fun x hx => .inr (by have := HG.out; simp at hx; omega)))
  have HS1 := hide O1.out.size
  by_cases h0 : (takeW ds).2.1 = 0
  · rw [if_pos h0] at ht
    obtain ⟨B, c', at_, rfl, hI, hR, hd⟩ := ht
    have hlt := hI.1
    have hB : (takeW ds).1.length ≤ maxLen := by
      rcases hI.2 with ⟨_, hz⟩ | ⟨g2, cap2, cur, hv, _, _, h1, h2, _⟩
      · omega
      · omega
    have CK := check_any B (takeW ds).1.length c' (fOf (takeW ds).1) w2 (is_at hI) hB
    cases hb : badP (takeW ds).1.length (fOf (takeW ds).1) with
    | true =>
      obtain ⟨x, hx⟩ := bad_chk hb
      rw [hx] at CK
      have CK := hide CK
      have HF := hide (show takeF ds = none from if_neg (fun hc => by rw [hb] at hc; exact absurd hc.2.1 (by decide)))
      clear hx hb hI hR hd h0 hlt hB
      go_wp2_with (go_at_call 7; (with_reducible refine CK.out.mono ?_); rintro e w3 ⟨rfl, o3⟩; have O3 := hide (OF.out.trans0 o3); clear o3)
      go_ret2
      rw [HF.out]
      exact ⟨O3.out, rfl⟩
    | false =>
      rw [chk_ok hb] at CK
      have CK := hide CK
      have EN := hide (fun W (o : Only [] w2 W) => end_any (hR.only0 o))
      have II := hide hI
      by_cases hle : ds.length ≤ at_
      · have he : (takeW ds).2.2 = [] := by rw [← hd]; exact List.drop_eq_nil_of_le hle
        have HF := hide (show takeF ds = some (takeW ds).1 from if_pos ⟨h0, hb, he⟩)
        rw [if_pos hle] at EN
        clear hb hI hR hd h0 hlt hB hle he
        obtain ⟨p, hp⟩ : ∃ p, (takeW ds).1 = p := ⟨_, rfl⟩
        rw [hp] at HF II CK ⊢
        clear hp
        go_wp2_with (first
          | (go_at_call 7; (with_reducible refine CK.out.mono ?_); rintro e w3 ⟨rfl, o3⟩; have O3 := hide o3; have OF3 := hide (OF.out.trans0 o3); have I3 := hide (II.out.only0 o3); clear o3)
          | (go_at_call 36; (with_reducible refine (EN.out _ O3.out).mono ?_); rintro e w4 ⟨rfl, k, rfl⟩))
        go_ret2
        rw [HF.out]
        exact ⟨OF3.out.drewN _, B, c', rfl, own_mono (own_only' I3.out ((Only.refl [] w3).drewN k) (by simp)) HS1.out⟩
      · have he : (takeW ds).2.2 ≠ [] := by
          rw [← hd]; intro h
          have := congrArg List.length h
          simp at this; omega
        have HF := hide (show takeF ds = none from if_neg (fun hc => he hc.2.2))
        rw [if_neg hle] at EN
        clear hb hI hR hd h0 hlt hB hle he II
        obtain ⟨p, hp⟩ : ∃ p, (takeW ds).1 = p := ⟨_, rfl⟩
        rw [hp] at CK ⊢
        clear hp
        go_wp2_with (first
          | (go_at_call 7; (with_reducible refine CK.out.mono ?_); rintro e w3 ⟨rfl, o3⟩; have O3 := hide o3; have OF3 := hide (OF.out.trans0 o3); clear o3)
          | (go_at_call 36; (with_reducible refine (EN.out _ O3.out).mono ?_); rintro e w4 ⟨rfl, k, rfl⟩))
        go_ret2
        rw [HF.out]
        exact ⟨OF3.out.drewN _, rfl⟩
  · rw [if_neg h0] at ht
    subst ht
    have CK := check_any none 0 0 (fOf []) w2 (fun k hk => by omega) (by unfold maxLen; omega)
    rw [chk_ok (show badP 0 (fOf []) = false by decide)] at CK
    have CK := hide CK
    have HF := hide (show takeF ds = none from if_neg (fun hc => h0 hc.1))
    obtain ⟨er, her⟩ : ∃ e, (takeW ds).2.1 = e := ⟨_, rfl⟩
    rw [her] at h0 ⊢
    have eb : (er != 0) = true := by simpa using h0
    have ec : (er == 0) = false := by simpa using h0
    clear h0 her
    go_wp2_with (go_at_call 7; (with_reducible refine CK.out.mono ?_); rintro e w3 ⟨rfl, o3⟩; have O3 := hide (OF.out.trans0 o3); clear o3)
    go_ret2
    rw [HF.out]
    exact ⟨O3.out, rfl⟩
end Go.Proofs.YtmaljajdmgkakaaGreatDoor
