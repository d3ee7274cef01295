/- Script: the walk of unword. Condition: Env; a text of at most 2000000 bytes. -/
import Derived.Test.YteblhklclcjonaaGreatDoorSw2
import Derived.Test.YteblhklclcjonaaGreatDoorSu2
import Derived.BigRegion
import Derived.Test.YteblhklclcjonaaGreatDoorSe5
namespace Go.Proofs.YteblhklclcjonaaGreatDoor
open Go.RowKit Go.Lib
set_option linter.unusedVariables false
set_option linter.all false
set_option maxRecDepth 100000
attribute [local go_sem ↓] app_hide

theorem unwL_any : ∀ (f : Nat) (r : List UInt8), r.length ≤ f → unwL f r = unwL r.length r
  | 0, r, h => by
    have : r = [] := List.eq_nil_of_length_eq_zero (by omega)
    subst this; rfl
  | f + 1, [], h => by unfold unwL; rfl
  | f + 1, c :: r, h => by
    simp only [List.length_cons] at h ⊢
    unfold unwL
    split
    · rw [unwL_any f (r.drop 2) (by simp; omega), unwL_any r.length (r.drop 2) (by simp)]
    · rw [unwL_any f r (by omega)]
theorem unwL_pct (r : List UInt8) : unwL (37 :: r).length (37 :: r) = UInt8.ofNat (hexP (r.take 2)) :: unwL (r.drop 2).length (r.drop 2) := by
  rw [List.length_cons]
  conv => lhs; unfold unwL
  rw [if_pos rfl, unwL_any r.length (r.drop 2) (by simp)]
theorem unwL_chr {c : UInt8} (r : List UInt8) (h : c ≠ 37) : unwL (c :: r).length (c :: r) = c :: unwL r.length r := by
  rw [List.length_cons]
  conv => lhs; unfold unwL
  rw [if_neg h]
theorem unwL_le : ∀ (f : Nat) (r : List UInt8), (unwL f r).length ≤ r.length
  | 0, r => by unfold unwL; simp
  | f + 1, [] => by unfold unwL; simp
  | f + 1, c :: r => by
    unfold unwL
    split
    · have := unwL_le f (r.drop 2)
      simp at this ⊢
      omega
    · have := unwL_le f r
      simp; omega
def Us (w : World) (B : Nat) (A : Option Addr) (c : Nat) (l : List UInt8) : Prop := w.ownsRow B 5 1 (.slice A l.length c) l.length (U8s l)
theorem Us.only0 {w w' : World} {B : Nat} {A : Option Addr} {c : Nat} {l : List UInt8} (h : Us w B A c l) (o : Only [] w w') : Us w' B A c l := own_only' h o (by simp)
theorem app_u8 (W : World) (B : Nat) (A : Option Addr) (c : Nat) (l : List UInt8) (x : UInt8) (hrow : Us W B A c l) (hl : l.length ≤ 2000000) (hB : B ≤ W.heap.size) :
    ∃ g' c' w2, (AppH #[68, 68] 68 #[.slice A l.length c, .slice (some ⟨W.heap.size, 0, none⟩) 1 1]).run Tryz.prog (W.alloc (.cells #[.int .u8 (x.toNat : Int)] 5)) = .ok (.slice (some ⟨g', 0, none⟩) (l.length + 1) c') w2 ∧
      Us w2 B (some ⟨g', 0, none⟩) c' (l ++ [x]) ∧ Only (blkOf A) W w2 := by
  obtain ⟨i0, hi, hz0, hz1, hz2⟩ := info_parts info5
  obtain ⟨g', cap', w2, hrun, hown, ho, hgg⟩ := append_at (P := Tryz.prog) (W.alloc (.cells #[.int .u8 (x.toNat : Int)] 5)) B 68 68 5 i0 (.int .u8 0) 1 1 Tryz.underlying68 hi hz0 hz1 hz2 rfl (by omega) A l.length c (U8s l) (own_only' hrow ((Only.refl [] W).alloc _) (by simp))
    ⟨W.heap.size, 0, none⟩ 1 1 [.int .u8 (x.toNat : Int)] rfl (fun j u hj => by
      have := (Blk.new W 5 #[.int .u8 (x.toNat : Int)]).cell j
      rw [add_mk, Nat.zero_add, this]
      rw [← Array.getElem?_toList]
      exact hj) (by intro u hu; simp at hu; subst hu; rfl) (.inl (by omega)) (by unfold maxLen; omega) (by omega) (by simp; omega)
  rw [app_hide] at hrun
  have e : U8s l ++ [.int .u8 (x.toNat : Int)] = U8s (l ++ [x]) := by rw [U8s_append]; simp [U8s, U8]
  rw [e] at hown
  exact ⟨g', cap', w2, hrun, by unfold Us; simpa using hown, ((Only.refl (blkOf A) W).alloc _).trans' ho⟩
theorem run_str_any (A : Option Addr) (n c : Nat) (ds : List UInt8) (w : World) (hl : ds.length = n) (hs : Src w A ds) : (convert 68 9 (.slice A n c)).run Tryz.prog w = .ok (.string ⟨ds.toArray⟩) w :=
  run_str (P := Tryz.prog) (dst := 9) Tryz.underlying68 Tryz.underlying5 Tryz.underlying9 n c hl hs
set_option maxHeartbeats 4000000 in
theorem unword_any (s : List UInt8) (hs : s.length ≤ 2000000) (w : World) (he : Env w) : Calls Tryz.prog 81 #[.string (bs s)] w fun e w' => e = .returned (.tuple #[.string (bs (unwX s)), .bool (wordB (unwX s) == s)]) ∧ Only [] w w' := by
  have htr : (bs s).toList = s := by rw [ByteArray.toList_eq, bs_list]
  have HE := hide he
  obtain ⟨RES, hRES⟩ : ∃ R, unwX s = R := ⟨_, rfl⟩
  have hRl : RES.length ≤ 2000000 := by rw [← hRES]; unfold unwX; split; simp; have := unwL_le s.length s; omega
  rw [hRES]
  have END : ∀ (A : Option Addr) (c : Nat) (W : World) (o : Only [] w W) (hU : Us W w.heap.size A c RES), True := fun _ _ _ _ _ => trivial
  clear he
  go_enter Tryz.func81, Tryz.ntmps81
  go_wp2_with fail
  go_loopw [4, 5] (fun vb vr wr => ∃ (l r : List UInt8) (A : Option Addr) (c : Nat), vb = .slice A l.length c ∧ vr = .string (bs r) ∧ r.length + l.length ≤ s.length ∧ Hid (s = [37] → r = s ∧ l = []) ∧ Hid (s ≠ [37] → l ++ unwL r.length r = RES) ∧ Hid (Us wr w.heap.size A c l) ∧ Hid (Only [] w wr)) (fun _ vr _ => match vr with | .string b => b.size | _ => 0)
  case atStart => exact ⟨[], s, none, 0, rfl, rfl, by simp, hide (fun _ => ⟨rfl, rfl⟩), hide (fun hp => by rw [← hRES]; unfold unwX; rw [if_neg hp]; rfl), hide (World.ownsRow_nil ..), hide (Only.refl _ _)⟩
  case round =>
    obtain ⟨l, r, A, c, rfl, rfl, hlen, hq, hR, hU, hO⟩ := hrel
    have HRES := hide hRES
    clear hRES
    have trr : (bs r).toList = r := by rw [ByteArray.toList_eq, bs_list]
    by_cases hr : r = []
    · have HL := hide (show l = RES by
        by_cases hp : s = [37]
        · have h1 := (hq.out hp).1; rw [hr, hp] at h1; cases h1
        · have h1 := hR.out hp; rw [hr] at h1; simpa [unwL] using h1)
      subst hr
      have eb : bs [] = ⟨#[]⟩ := rfl
      rw [eb]
      clear hq trr eb
      have hsrc : Src wr A l := Src.own hU.out
      have hlR : l.length ≤ 2000000 := by omega
      have ST := hide (fun V (o : Only [] wr V) => run_str_any A l.length c l V rfl (hsrc.only0 o))
      have WD := hide (fun V => word_any l hlR V)
      have OW := hide hO.out
      have heq := bs_eq (wordB l) s
      clear htr
      obtain ⟨S1, hS1⟩ : ∃ S, bs l = S := ⟨_, rfl⟩
      obtain ⟨S2, hS2⟩ : ∃ S, bs (wordB l) = S := ⟨_, rfl⟩
      have ST2 := ST.out
      have WD2 := WD.out
      rw [show (⟨l.toArray⟩ : ByteArray) = S1 from hS1] at ST2
      rw [hS1, hS2] at WD2
      rw [hS2] at heq
      have ST := hide ST2
      have WD := hide WD2
      have HS1 := hide hS1
      have k0 := ST.out wr (Only.refl _ _)
      have kd := ST.out wr.drew ((Only.refl [] wr).drew)
      clear ST2 WD2 hsrc hS1 hS2 hR hU hO
      go_wp2_with fail
      go_region_held3 (fun V => (convert 68 9 (.slice A l.length c)).run Tryz.prog V = .ok (.string S1) V) (first | exact kd | exact k9 | go_keep) (first | (go_at_call 46; (with_reducible refine (WD.out _).mono ?_); rintro e w4 ⟨rfl, o4⟩; have k9 := ST.out w4 (((Only.refl [] wr).drew).trans0 o4); have O4 := hide ((OW.out.drew).trans0 o4)))
      go_wp2_with fail
      go_ret2
      rw [← HL.out, HS1.out]
      exact ⟨by first | rfl | (rw [heq]; rfl), O4.out⟩
    · have n1 := str_ne r [] hr
      rw [show bs [] = ⟨#[]⟩ from rfl] at n1
      obtain ⟨n11, n12, n13⟩ := n1
      have n14 : ¬ (bs r).toList = [] := by rw [trr]; exact hr
      have n15 : (bs r).toList.isEmpty = false := by rw [trr]; simpa using hr
      by_cases hp : s = [37]
      · have HL := hide (show l = RES by rw [(hq.out hp).2, ← HRES.out, hp]; rfl)
        have e1 := (hq.out hp).1
        subst hp
        subst e1
        have eb : bs [37] = ⟨#[37]⟩ := rfl
        rw [eb]
        clear hq trr hr htr n11 n12 n13 n14 n15
        have hsrc : Src wr A l := Src.own hU.out
        have hlR : l.length ≤ 2000000 := by omega
        have ST := hide (fun V (o : Only [] wr V) => run_str_any A l.length c l V rfl (hsrc.only0 o))
        have WD := hide (fun V => word_any l hlR V)
        have OW := hide hO.out
        have heq := bs_eq (wordB l) [37]
        rw [eb] at heq
        have heq2 : ((bs (wordB l)).toList == [37]) = (wordB l == [37]) := by rw [ByteArray.toList_eq, bs_list]
        clear eb
        obtain ⟨S1, hS1⟩ : ∃ S, bs l = S := ⟨_, rfl⟩
        obtain ⟨S2, hS2⟩ : ∃ S, bs (wordB l) = S := ⟨_, rfl⟩
        have ST2 := ST.out
        have WD2 := WD.out
        rw [show (⟨l.toArray⟩ : ByteArray) = S1 from hS1] at ST2
        rw [hS1, hS2] at WD2
        rw [hS2] at heq heq2
        have ST := hide ST2
        have WD := hide WD2
        have HS1 := hide hS1
        have k0 := ST.out wr (Only.refl _ _)
        have kd := ST.out wr.drew ((Only.refl [] wr).drew)
        clear ST2 WD2 hsrc hS1 hS2 hR hU hO
        go_wp2_with fail
        go_region_held3 (fun V => (convert 68 9 (.slice A l.length c)).run Tryz.prog V = .ok (.string S1) V) (first | exact kd | exact k9 | go_keep) (first | (go_at_call 46; (with_reducible refine (WD.out _).mono ?_); rintro e w4 ⟨rfl, o4⟩; have k9 := ST.out w4 (((Only.refl [] wr).drew).trans0 o4); have O4 := hide ((OW.out.drew).trans0 o4)))
        go_wp2_with fail
        go_ret2
        rw [← HL.out, HS1.out]
        exact ⟨by first | rfl | (rw [heq]; rfl), O4.out⟩
      · have n2 := str_ne s [37] hp
        rw [show bs [37] = ⟨#[37]⟩ from rfl] at n2
        obtain ⟨n21, n22, n23⟩ := n2
        have n24 : ¬ (bs s).toList = [37] := by rw [htr]; exact hp
        have n25 : ((bs s).toList == [37]) = false := by rw [htr]; simpa using hp
        obtain ⟨x, r', rfl⟩ : ∃ x r', r = x :: r' := by
          cases r with
          | nil => exact absurd rfl hr
          | cons x r' => exact ⟨x, r', rfl⟩
        have hR1 := hR.out hp
        have hlen' : r'.length + 1 + l.length ≤ s.length := by simpa using hlen
        have hUl := hU
        have hz : (bs (x :: r')).size = r'.length + 1 := by rw [bs_size]; rfl
        have d1 : 0 < (bs (x :: r')).size := by omega
        have g0 : (bs (x :: r'))[0]'d1 = x := by simp [bs, ByteArray.getElem_eq_getElem_data]
        have ex1 : (bs (x :: r')).extract 1 (bs (x :: r')).size = bs r' := by rw [bs_drop]; rfl
        have ex2 : (bs (x :: r')).extract 1 (r'.length + 1) = bs r' := by rw [← hz]; exact ex1
        obtain ⟨R, hRR⟩ : ∃ R, bs (x :: r') = R := ⟨_, rfl⟩
        have j1 : (1 : Int) ≤ (R.size : Int) := by rw [← hRR, hz]; omega
        have d0 : decide (0 < R.size) = true := by rw [← hRR]; exact decide_eq_true d1
        by_cases hx : x = 37
        · subst hx
          clear g0 ex1 ex2 d0 j1
          subst hRR
          have PUF := fun (t : List UInt8) (ht : t.length ≤ 2) (W : World) (o : Only [] w W) => pu_any t ht W (HE.out.only o)
          rw [unwL_pct] at hR1
          have hb256 : ∀ t, (UInt8.ofNat (hexP t)).toNat = hexP t := fun t => by have := hexP_lt t; simp [UInt8.toNat_ofNat']; omega
          rcases r' with _ | ⟨a, _ | ⟨b, t⟩⟩
          · have PU := hide (PUF [] (by simp))
            have HR2 := hide (show (l ++ [UInt8.ofNat (hexP [])]) ++ unwL ([] : List UInt8).length [] = RES by rw [← hR1]; simp)
            have hb := hb256 []
            have hb2 := hexP_lt []
            obtain ⟨v, hv⟩ : ∃ v, hexP [] = v := ⟨_, rfl⟩
            have PU2 := PU.out
            rw [show bs [] = ByteArray.empty from rfl] at PU2
            rw [hv] at PU2 hb hb2 HR2
            have PU := hide PU2
            obtain ⟨y, hy⟩ : ∃ y, UInt8.ofNat v = y := ⟨_, rfl⟩
            rw [hy] at HR2 hb
            have g0 : (bs [37])[0]'d1 = 37 := by simp [bs, ByteArray.getElem_eq_getElem_data]
            have x1 : (bs [37]).extract 1 1 = bs [] := by apply ByteArray.ext; simp [bs, ByteArray.data_extract]
            have x2 : (bs [37]).extract 1 (bs [37]).size = bs [] := by rw [bs_drop]; rfl
            have x3 := x2
            rw [hz] at x3
            simp only [List.length_cons, List.length_nil, Nat.zero_add, Nat.reduceAdd] at x3 hz
            have m3 : min (3 : Int) 1 = 1 := by decide
            have w1 : (v : Int) % 256 = (y.toNat : Int) := by omega
            have w2 : IntKind.u8.wrap (v : Int) = (y.toNat : Int) := by rw [IntKind.wrap_u8]; omega
            have AP := hide (fun (V : World) (oV : Only [] wr V) => app_u8 V w.heap.size A c l y (hU.out.only0 oV) (by omega) (by have := oV.size; have := hO.out.size; omega))
            have HGE := hide (own_ge hU.out)
            have HO2 := hide hO.out
            simp only [List.length_cons, List.length_nil] at hlen'
            clear PU2 hR1 PUF hb256 hv htr trr hq hR n11 n12 n13 n21 n22 n23 hlen hU hO hUl hy hb2 hb
            go_wp2_with (first
              | (go_at_call 106; (with_reducible refine (PU.out _ HO2.out).mono ?_); rintro e w4 ⟨⟨er, rfl⟩, o4⟩; have O4 := hide o4; obtain ⟨g', c', w5, hrun, hU3, o5⟩ := AP.out w4.drew (o4.drew); have hrun : (AppH #[68, 68] 68 #[.slice A l.length c, .slice (some ⟨w4.heap.size, 0, none⟩) 1 1]).run Tryz.prog (w4.alloc (.cells #[.int .u8 (y.toNat : Int)] 5)).drew = .ok (.slice (some ⟨g', 0, none⟩) (l.length + 1) c') w5 := hrun; have HU3 := hide hU3; have HO3 := hide (((HO2.out.trans0 o4).drew).trans o5 (fun k hk => .inr (HGE.out k hk).1)); clear hU3 o5 o4))
            go_region
            go_wp2_with fail
            go_roundw
            case rel => exact ⟨l ++ [y], [], some ⟨g', 0, none⟩, c', by simp, (by first | rfl | rw [x2] | rw [x3]), by simp; omega, hide (fun h => absurd h hp), hide (fun _ => HR2.out), HU3, HO3⟩
            case measure => (try first | rw [x2] | rw [x3]); simp [bs_size] <;> omega
          · have PU := hide (PUF [a] (by simp))
            have HR2 := hide (show (l ++ [UInt8.ofNat (hexP [a])]) ++ unwL ([] : List UInt8).length [] = RES by rw [← hR1]; simp)
            have hb := hb256 [a]
            have hb2 := hexP_lt [a]
            obtain ⟨v, hv⟩ : ∃ v, hexP [a] = v := ⟨_, rfl⟩
            have PU2 := PU.out
            rw [hv] at PU2 hb hb2 HR2
            have PU := hide PU2
            obtain ⟨y, hy⟩ : ∃ y, UInt8.ofNat v = y := ⟨_, rfl⟩
            rw [hy] at HR2 hb
            have g0 : (bs [37, a])[0]'d1 = 37 := by simp [bs, ByteArray.getElem_eq_getElem_data]
            have x1 : (bs [37, a]).extract 1 2 = bs [a] := by apply ByteArray.ext; simp [bs, ByteArray.data_extract]
            have x2 : (bs [37, a]).extract 2 (bs [37, a]).size = bs [] := by rw [bs_drop]; rfl
            have x3 := x2
            rw [hz] at x3
            simp only [List.length_cons, List.length_nil, Nat.zero_add, Nat.reduceAdd] at x3 hz
            have m3 : min (3 : Int) 2 = 2 := by decide
            have w1 : (v : Int) % 256 = (y.toNat : Int) := by omega
            have w2 : IntKind.u8.wrap (v : Int) = (y.toNat : Int) := by rw [IntKind.wrap_u8]; omega
            have AP := hide (fun (V : World) (oV : Only [] wr V) => app_u8 V w.heap.size A c l y (hU.out.only0 oV) (by omega) (by have := oV.size; have := hO.out.size; omega))
            have HGE := hide (own_ge hU.out)
            have HO2 := hide hO.out
            simp only [List.length_cons, List.length_nil] at hlen'
            clear PU2 hR1 PUF hb256 hv htr trr hq hR n11 n12 n13 n21 n22 n23 hlen hU hO hUl hy hb2 hb
            go_wp2_with (first
              | (go_at_call 106; (with_reducible refine (PU.out _ HO2.out).mono ?_); rintro e w4 ⟨⟨er, rfl⟩, o4⟩; have O4 := hide o4; obtain ⟨g', c', w5, hrun, hU3, o5⟩ := AP.out w4.drew (o4.drew); have hrun : (AppH #[68, 68] 68 #[.slice A l.length c, .slice (some ⟨w4.heap.size, 0, none⟩) 1 1]).run Tryz.prog (w4.alloc (.cells #[.int .u8 (y.toNat : Int)] 5)).drew = .ok (.slice (some ⟨g', 0, none⟩) (l.length + 1) c') w5 := hrun; have HU3 := hide hU3; have HO3 := hide (((HO2.out.trans0 o4).drew).trans o5 (fun k hk => .inr (HGE.out k hk).1)); clear hU3 o5 o4))
            go_region
            go_wp2_with fail
            go_roundw
            case rel => exact ⟨l ++ [y], [], some ⟨g', 0, none⟩, c', by simp, (by first | rfl | rw [x2] | rw [x3]), by simp; omega, hide (fun h => absurd h hp), hide (fun _ => HR2.out), HU3, HO3⟩
            case measure => (try first | rw [x2] | rw [x3]); simp [bs_size] <;> omega
          · have PU := hide (PUF [a, b] (by simp))
            have HR2 := hide (show (l ++ [UInt8.ofNat (hexP [a, b])]) ++ unwL (t : List UInt8).length t = RES by rw [← hR1]; simp)
            have hb := hb256 [a, b]
            have hb2 := hexP_lt [a, b]
            obtain ⟨v, hv⟩ : ∃ v, hexP [a, b] = v := ⟨_, rfl⟩
            have PU2 := PU.out
            rw [hv] at PU2 hb hb2 HR2
            have PU := hide PU2
            obtain ⟨y, hy⟩ : ∃ y, UInt8.ofNat v = y := ⟨_, rfl⟩
            rw [hy] at HR2 hb
            have g0 : (bs (37 :: a :: b :: t))[0]'d1 = 37 := by simp [bs, ByteArray.getElem_eq_getElem_data]
            have x1 : (bs (37 :: a :: b :: t)).extract 1 3 = bs [a, b] := by apply ByteArray.ext; simp [bs, ByteArray.data_extract]
            have x2 : (bs (37 :: a :: b :: t)).extract 3 (bs (37 :: a :: b :: t)).size = bs t := by rw [bs_drop]; rfl
            have x3 := x2
            rw [hz] at x3
            simp only [List.length_cons, List.length_nil, Nat.zero_add, Nat.reduceAdd] at x3 hz
            have m3 : min (3 : Int) ((t.length : Int) + 1 + 1 + 1) = 3 := by omega
            have m4 : (3 : Int) ≤ (t.length : Int) + 1 + 1 + 1 := by omega
            have w1 : (v : Int) % 256 = (y.toNat : Int) := by omega
            have w2 : IntKind.u8.wrap (v : Int) = (y.toNat : Int) := by rw [IntKind.wrap_u8]; omega
            have AP := hide (fun (V : World) (oV : Only [] wr V) => app_u8 V w.heap.size A c l y (hU.out.only0 oV) (by omega) (by have := oV.size; have := hO.out.size; omega))
            have HGE := hide (own_ge hU.out)
            have HO2 := hide hO.out
            simp only [List.length_cons, List.length_nil] at hlen'
            clear PU2 hR1 PUF hb256 hv htr trr hq hR n11 n12 n13 n21 n22 n23 hlen hU hO hUl hy hb2 hb
            go_wp2_with (first
              | (go_at_call 106; (with_reducible refine (PU.out _ HO2.out).mono ?_); rintro e w4 ⟨⟨er, rfl⟩, o4⟩; have O4 := hide o4; obtain ⟨g', c', w5, hrun, hU3, o5⟩ := AP.out w4.drew (o4.drew); have hrun : (AppH #[68, 68] 68 #[.slice A l.length c, .slice (some ⟨w4.heap.size, 0, none⟩) 1 1]).run Tryz.prog (w4.alloc (.cells #[.int .u8 (y.toNat : Int)] 5)).drew = .ok (.slice (some ⟨g', 0, none⟩) (l.length + 1) c') w5 := hrun; have HU3 := hide hU3; have HO3 := hide (((HO2.out.trans0 o4).drew).trans o5 (fun k hk => .inr (HGE.out k hk).1)); clear hU3 o5 o4))
            go_region
            go_wp2_with fail
            go_roundw
            case rel => exact ⟨l ++ [y], t, some ⟨g', 0, none⟩, c', by simp, (by first | rfl | rw [x2] | rw [x3]), by simp; omega, hide (fun h => absurd h hp), hide (fun _ => HR2.out), HU3, HO3⟩
            case measure => (try first | rw [x2] | rw [x3]); simp [bs_size] <;> omega
        · have HR2 := hide (show (l ++ [x]) ++ unwL r'.length r' = RES by rw [← hR1, unwL_chr r' hx]; simp)
          have b37 : ((x.toNat : Int) == 37) = false := by
            simp
            intro h
            exact hx (UInt8.toNat_inj.1 (by simpa using (by omega : x.toNat = 37)))
          obtain ⟨g', c', w3, hrun, hU3, o3⟩ := app_u8 wr.drew w.heap.size A c l x (hU.out.only0 ((Only.refl [] wr).drew)) (by omega) (by have := hO.out.size; exact this)
          have hrun : (AppH #[68, 68] 68 #[.slice A l.length c, .slice (some ⟨wr.heap.size, 0, none⟩) 1 1]).run Tryz.prog (wr.alloc (.cells #[.int .u8 (x.toNat : Int)] 5)).drew = .ok (.slice (some ⟨g', 0, none⟩) (l.length + 1) c') w3 := hrun
          have HU3 := hide hU3
          have hge := own_ge hU.out
          have HO3 := hide (((hO.out.drew).trans o3 (fun k hk => .inr (hge k hk).1)))
          subst hRR
          clear hq hR hR1 hlen hU hO trr hge o3 hU3 n11 n12 n13 n21 n22 n23 htr hUl
          go_wp2_with fail
          go_region
          go_wp2_with fail
          trace_state
          go_roundw
          case rel => exact ⟨l ++ [x], r', some ⟨g', 0, none⟩, c', by simp, (by first | rfl | rw [ex2]), by simp; omega, hide (fun h => absurd h hp), hide (fun _ => HR2.out), HU3, HO3⟩
          case measure => (try rw [ex2]); simp [bs_size]
end Go.Proofs.YteblhklclcjonaaGreatDoor
