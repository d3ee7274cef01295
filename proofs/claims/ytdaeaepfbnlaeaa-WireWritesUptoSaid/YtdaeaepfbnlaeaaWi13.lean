/- Walks over wire: lists of numbers, both readers. No condition but at most 1048576 bytes. -/
import Derived.Test.YtdaeaepfbnlaeaaWi12
namespace Go.Proofs.Ytdaeaepfbnlaeaa
open Go.RowKit
set_option linter.unusedVariables false
set_option linter.all false
set_option maxRecDepth 20000
attribute [local go_sem ↓] app_hide

def U64s (l : List Nat) : List Value := l.map fun (n : Nat) => Value.int .u64 (n : Int)
theorem length_U64s (l : List Nat) : (U64s l).length = l.length := by simp [U64s]
theorem u64s_snoc (l : List Nat) (x : Nat) : U64s l ++ [.int .u64 (x : Int)] = U64s (l ++ [x]) := by simp [U64s]
theorem u64_info : (Try.prog.info? 22).map (fun i => (i.zero, i.size, i.bytes)) = some (some (.int .u64 0), 1, 8) := by kernel_rfl
theorem app_u64 (B : Nat) (A : Option Addr) (n c : Nat) (l : List Nat) (x : Nat) (y : Int) (hy : y = (x : Int)) (w : World) (hrow : w.ownsRow B 22 1 (.slice A n c) n (U64s l)) (hn : n + 1 ≤ 17592186044416) (hB : B ≤ w.heap.size) :
    ∃ (g' cap' : Nat) (w2 : World), (AppH #[87, 87] 87 #[.slice A n c, .slice (some ⟨w.heap.size, 0, none⟩) 1 1]).run Try.prog (w.alloc (.cells #[.int .u64 y] 22)) = .ok (.slice (some ⟨g', 0, none⟩) (n + 1) cap') w2 ∧
      w2.ownsRow B 22 1 (.slice (some ⟨g', 0, none⟩) (n + 1) cap') (n + 1) (U64s (l ++ [x])) ∧ Only (blkOf A) w w2 := by
  subst hy
  obtain ⟨i0, hi, hz0, hz1, hz2⟩ := info_parts u64_info
  obtain ⟨g', cap', w2, hr2, h2, o2, hgg⟩ := append_at (P := Try.prog) (w.alloc (.cells #[.int .u64 x] 22)) B 87 87 22 i0 (.int .u64 0) 1 8 Try.underlying87 hi hz0 hz1 hz2 rfl (by omega) A n c (U64s l) (hrow.alloc _)
    ⟨w.heap.size, 0, none⟩ 1 1 [.int .u64 x] rfl (fun j u hj => by
      have := (Blk.new w 22 #[.int .u64 x]).cell j
      rw [add_mk, Nat.zero_add, this, List.getElem?_toArray]
      exact hj) (by simp [Value.oneCell']) (.inl (by omega)) (by unfold maxLen; omega) (by omega) (by simp; omega)
  rw [u64s_snoc] at h2
  exact ⟨g', cap', w2, hr2, h2, ((Only.refl _ w).alloc _).trans o2 (fun x hx => .inl hx)⟩

/-- Reading numbers, one behind the other. -/
def rdL : Nat → List UInt8 → Option (List Nat × Nat)
  | 0, _ => some ([], 0)
  | i + 1, l => match rdL i l with
    | none => none
    | some (d, K) => match rdN (l.drop K) 0 0 with
      | none => none
      | some (v, k) => some (d ++ [v], K + k)
theorem rdL_facts : ∀ (i : Nat) (l : List UInt8) (d : List Nat) (K : Nat), rdL i l = some (d, K) → d.length = i ∧ i ≤ K ∧ K ≤ l.length := by
  intro i
  induction i with
  | zero => intro l d K h; simp [rdL] at h; obtain ⟨rfl, rfl⟩ := h; simp
  | succ i ih =>
    intro l d K h
    simp only [rdL] at h
    split at h
    · cases h
    · rename_i d0 K0 h0
      split at h
      · cases h
      · rename_i v k h1
        simp only [Option.some.injEq, Prod.mk.injEq] at h
        obtain ⟨rfl, rfl⟩ := h
        have a1 := ih l d0 K0 h0
        have a2 := rdN_bound _ 0 0 v k h1 (by omega) (by omega)
        rw [List.length_drop] at a2
        rw [List.length_append, List.length_singleton]
        omega
theorem rdL_none (i n : Nat) (l : List UInt8) (h : rdL i l = none) (hn : i ≤ n) : rdL n l = none := by
  induction n with
  | zero => obtain rfl : i = 0 := by omega
            exact h
  | succ n ih =>
    by_cases e : i = n + 1
    · subst e; exact h
    · simp only [rdL, ih (by omega)]
def finL (k0 : Nat) : Option (List Nat × Nat) → Int × List Nat × Nat
  | none => (4, [], 0)
  | some (d, K) => (0, d, k0 + K)
def resL (most : Int) (l : List UInt8) : Int × List Nat × Nat :=
  if (resC most l).2.1 = 0 then finL (resC most l).2.2 (rdL (resC most l).1.toNat (l.drop (resC most l).2.2)) else ((resC most l).2.1, [], 0)
def ListRead (w : World) (g gb cap : Nat) (bs : List UInt8) (at_ : Nat) (er : Int) (ds : List Nat) (k : Nat) (e : Ending) (w' : World) : Prop :=
  Only [g] w w' ∧ Rd w' g gb cap bs (at_ + k) ∧ ∃ (A : Option Addr) (c : Nat), e = .returned (.tuple #[.slice A ds.length c, .int .i64 er]) ∧ w'.ownsRow w.heap.size 22 1 (.slice A ds.length c) ds.length (U64s ds)
def RListRead (w : World) (h : Nat) (A : Option Addr) (c : Nat) (bs : List UInt8) (at_ : Nat) (er : Int) (ds : List Nat) (k : Nat) (e : Ending) (w' : World) : Prop :=
  Only [h] w w' ∧ RRd w' h A c bs (at_ + k) ∧ ∃ (A' : Option Addr) (c' : Nat), e = .returned (.tuple #[.slice A' ds.length c', .int .i64 er]) ∧ w'.ownsRow w.heap.size 22 1 (.slice A' ds.length c') ds.length (U64s ds)
theorem eq90_some (f : FuncId) (a b : Array Value) (w : World) : (binOp .eql 90 (.func (.func f) a b) .nilFunc).run Try.prog w = .ok (.bool false) w := by kernel_rfl

set_option maxHeartbeats 4000000 in
theorem take_any {g gb cap at_ : Nat} {bs : List UInt8} {w : World} (most : Int) (hm : most ≤ 9223372036854775807) (hsm : bs.length ≤ 1048576) (h : Rd w g gb cap bs at_) :
    Calls Try.prog 44 #[.pointer (some ⟨g, 0, none⟩), .int .i64 most, .func (.func 20) #[] #[]] w (ListRead w g gb cap bs at_ (resL most (bs.drop at_)).1 (resL most (bs.drop at_)).2.1 (resL most (bs.drop at_)).2.2) := by
  have hc := count_any most hm h
  obtain ⟨f1, f2, f3, f4⟩ := resC_facts most (bs.drop at_)
  have hmn : (resC most (bs.drop at_)).2.1 = 0 → 0 ≤ most := fun he => by
    unfold resC at he
    by_cases h0 : most < 0
    · simp only [if_pos h0] at he; exact absurd he (by decide)
    · omega
  unfold CountRead at hc
  unfold resL
  rw [List.drop_drop]
  generalize (resC most (bs.drop at_)).1 = n at hc f1 f2 f3 f4 ⊢
  generalize (resC most (bs.drop at_)).2.1 = er at hc f1 f2 f3 f4 hmn ⊢
  generalize (resC most (bs.drop at_)).2.2 = k0 at hc f1 f2 f3 f4 ⊢
  rw [List.length_drop] at f1
  have hle := h.le
  have hmx := h.max
  have k1 := h.k1
  have hglt := h.lt
  have HC := hide hc
  have H := hide h
  have hq := eq90_some 20 #[] #[] w
  clear hc h
  by_cases he : er = 0
  · subst he
    simp only [if_true]
    obtain ⟨nn, rfl⟩ : ∃ nn : Nat, n = nn := ⟨n.toNat, by omega⟩
    rw [Int.toNat_natCast]
    have hnm : (nn : Int) ≤ 9223372036854775807 := by have := f3 (hmn rfl); omega
    clear f3 f4 hmn
    obtain ⟨lo, hlo⟩ : ∃ lo, lo = at_ + k0 := ⟨_, rfl⟩
    have HLO := hide hlo
    rw [← hlo]
    go_enter Try.func44, Try.ntmps44
    go_wp2_with fail
    refine (there_yes H.out).mono ?_
    rintro e w' ⟨rfl, rfl⟩
    go_wp2_with fail
    refine HC.out.mono ?_
    rintro e w1 ⟨rfl, o1, h1⟩
    rw [← hlo] at h1
    have H1 := hide h1
    have hsz1 := o1.size
    clear h1 hlo k1 hq
    go_wp2_with fail
    go_loopw [10, 11, 12] (fun ve vl vi wr => ∃ (i : Nat) (LA : Option Addr) (ca : Nat) (ws : List Nat), vi = .int .i64 (i : Int) ∧ vl = .slice LA ws.length ca ∧ Only [g] w wr ∧ Hid (wr.ownsRow w.heap.size 22 1 (.slice LA ws.length ca) ws.length (U64s ws)) ∧ i ≤ nn ∧ ((ve = .int .i64 0 ∧ ∃ K, Hid (rdL i (bs.drop lo) = some (ws, K)) ∧ Rd wr g gb cap bs (lo + K)) ∨ (ve = .int .i64 4 ∧ Hid (rdL nn (bs.drop lo) = none) ∧ ∃ at', Rd wr g gb cap bs at'))) (fun ve _ vi _ => (if intOf ve = 0 then 1 + (nn - (intOf vi).toNat) else 0))
    case atStart => exact ⟨0, _, 0, [], rfl, rfl, o1.alloc _, hide (own_of_block (base := w.heap.size) (n := 0) (cap := 0) (cur := []) (Blk.new w1 22 #[]) rfl (Nat.le_refl _) (by unfold maxLen; omega) hsz1), Nat.zero_le _, .inl ⟨rfl, 0, hide rfl, H1.out.only0 ((Only.refl [] _).alloc _)⟩⟩
    case round =>
      obtain ⟨i, LA, ca, ws, rfl, rfl, hO, hrow, hin, ⟨rfl, K, hK, hR⟩ | ⟨rfl, hno, at', hR⟩⟩ := hrel
      · obtain ⟨fl1, fl2, fl3⟩ := rdL_facts i _ ws K hK.out
        rw [List.length_drop] at fl3
        have hwl : ws.length ≤ 1048576 := by omega
        have FL1 := hide fl1
        clear fl1
        have hi0 : (0 : Int) ≤ (i : Int) := by omega
        by_cases hlt : i < nn
        · have i1 : (i : Int) < (nn : Int) := by omega
          have hcall := rdnumber_any hR
          unfold NumRead at hcall
          rw [← List.drop_drop] at hcall
          cases hx : rdN ((bs.drop lo).drop K) 0 0 with
          | none =>
            rw [resN_none hx] at hcall
            have hnn : rdL nn (bs.drop lo) = none := rdL_none (i + 1) nn _ (by simp only [rdL, hK.out, hx]) (by omega)
            have HNN := hide hnn
            have HCALL := hide hcall
            clear hnn hcall hx
            go_wp2_with fail
            refine HCALL.out.mono ?_
            rintro e w1 ⟨rfl, o1, hR1⟩
            have hO1 := hO.trans o1 (fun x hx => .inl hx)
            have hlt1 := hglt
            have hrow1 := own_only' hrow.out o1 (fun k hk => by have := (own_ge hrow.out k hk).1; simp; omega)
            obtain ⟨g2, c2, w2, hrun, hrow2, o2⟩ := app_u64 w.heap.size LA ws.length ca ws 0 0 rfl w1 hrow1 (by omega) hO1.size
            have hR2 := hR1.only o2 (fun hm => by have := (own_ge hrow1 _ hm).1; omega) (fun hm => by have := (own_ge hrow1 _ hm).1; omega)
            have hO2 := hO1.trans o2 (fun x hx => .inr (own_ge hrow1 x hx).1)
            have HROW := hide hrow2
            clear hrow1 hrow2 o2 o1
            go_wp2_with fail
            go_roundw
            case rel => exact ⟨i + 1, some ⟨g2, 0, none⟩, c2, ws ++ [0], by go_num, by simp, hO2, by simpa using HROW, by omega, .inr ⟨rfl, HNN, _, hR2⟩⟩
            case measure => (first | (simp [intOf]; done) | (simp [intOf]; omega))
          | some vk =>
            obtain ⟨v, k⟩ := vk
            rw [resN_some hx] at hcall
            have hv := (rdN_bound _ 0 0 v k hx (by omega) (by omega)).1
            have hstep : rdL (i + 1) (bs.drop lo) = some (ws ++ [v], K + k) := by simp only [rdL, hK.out, hx]
            have HSTEP := hide hstep
            have HCALL := hide hcall
            clear hstep hcall hx
            go_wp2_with fail
            refine HCALL.out.mono ?_
            rintro e w1 ⟨rfl, o1, hR1⟩
            have hO1 := hO.trans o1 (fun x hx => .inl hx)
            have hrow1 := own_only' hrow.out o1 (fun k hk => by have := (own_ge hrow.out k hk).1; simp; omega)
            obtain ⟨g2, c2, w2, hrun, hrow2, o2⟩ := app_u64 w.heap.size LA ws.length ca ws v v rfl w1 hrow1 (by omega) hO1.size
            have hR2 := hR1.only o2 (fun hm => by have := (own_ge hrow1 _ hm).1; omega) (fun hm => by have := (own_ge hrow1 _ hm).1; omega)
            have hO2 := hO1.trans o2 (fun x hx => .inr (own_ge hrow1 x hx).1)
            have HROW := hide hrow2
            clear hrow1 hrow2 o2 o1
            go_wp2_with fail
            go_roundw
            case rel => exact ⟨i + 1, some ⟨g2, 0, none⟩, c2, ws ++ [v], by go_num, by simp, hO2, by simpa using HROW, by omega, .inl ⟨rfl, K + k, HSTEP, by have := hR2; simp only [Nat.add_assoc] at this ⊢; exact this⟩⟩
            case measure => (first | (simp [intOf]; done) | (simp [intOf]; omega))
        · obtain rfl : i = nn := by omega
          have i1 : ¬ (i : Int) < (i : Int) := by omega
          go_wp2_with fail
          go_ret2
          rw [hK.out]
          refine ⟨hO, ?_, LA, ca, rfl, hrow.out⟩
          have hl := HLO.out
          show Rd wr g gb cap bs (at_ + (k0 + K))
          rw [show at_ + (k0 + K) = lo + K by omega]
          exact hR
      · have gf := hR.hdr.frozen 1
        have gt := hR.k1
        have HRR := hide hR
        clear hR
        go_wp2_with fail
        go_ret2
        rw [hno.out]
        have hmv := HRR.out.move at_ hle
        exact ⟨hO.setCell (.inl (by simp)) _, hmv, none, 0, rfl, ⟨rfl, .inl ⟨rfl, rfl⟩⟩⟩
  · simp only [if_neg he]
    have he' : (er == 0) = false := by simpa using he
    clear f3 hmn
    go_enter Try.func44, Try.ntmps44
    go_wp2_with fail
    refine (there_yes H.out).mono ?_
    rintro e w' ⟨rfl, rfl⟩
    go_wp2_with fail
    refine HC.out.mono ?_
    rintro e w1 ⟨rfl, o1, h1⟩
    have H1 := hide h1
    clear h1 k1 hq
    go_wp2_with fail
    go_loopw [10, 11, 12] (fun ve vl vi wr => ve = .int .i64 er ∧ vi = .int .i64 0 ∧ (∃ (LA : Option Addr) (m ca : Nat), vl = .slice LA m ca) ∧ Only [g] w wr ∧ ∃ at', Rd wr g gb cap bs at') (fun _ _ _ _ => 0)
    case atStart => exact ⟨rfl, rfl, ⟨_, _, _, rfl⟩, o1.alloc _, _, H1.out.only0 ((Only.refl [] _).alloc _)⟩
    case round =>
      obtain ⟨rfl, rfl, ⟨LA, m, ca, rfl⟩, hO, at', hR⟩ := hrel
      have gf := hR.hdr.frozen 1
      have gt := hR.k1
      have HRR := hide hR
      clear hR
      go_wp2_with fail
      go_ret2
      have hmv := HRR.out.move at_ hle
      exact ⟨hO.setCell (.inl (by simp)) _, hmv, none, 0, rfl, ⟨rfl, .inl ⟨rfl, rfl⟩⟩⟩

set_option maxHeartbeats 4000000 in
theorem rnumbers_any {h c at_ : Nat} {A : Option Addr} {bs : List UInt8} {w : World} (most : Int) (h0 : 0 ≤ most) (hm : most ≤ 9223372036854775807) (hsm : bs.length ≤ 1048576) (hr : RRd w h A c bs at_) (halt : 0 < bs.length → ∀ ad, A = some ad → ad.block < w.heap.size) :
    Calls Try.prog 45 #[.pointer (some ⟨h, 0, none⟩), .int .i64 most] w (RListRead w h A c bs at_ (resL most (bs.drop at_)).1 (resL most (bs.drop at_)).2.1 (resL most (bs.drop at_)).2.2) := by
  have hn := rrdnumber_any hr
  have hu := resN_lt (bs.drop at_)
  have he := resN_err (bs.drop at_)
  have f1 := resN_le (bs.drop at_)
  unfold RNumRead at hn
  unfold resL resC
  simp only [if_neg (by omega : ¬ most < 0)]
  generalize (resN (bs.drop at_)).1 = nn at hn hu ⊢
  generalize (resN (bs.drop at_)).2.1 = er at hn he ⊢
  generalize (resN (bs.drop at_)).2.2 = k0 at hn f1 ⊢
  rw [List.length_drop] at f1
  have hle := hr.le
  have hmx := hr.max
  have k1 := hr.k1
  have hglt := hr.hdr.lt
  have HC := hide hn
  have H := hide hr
  clear hn hr
  by_cases he0 : er = 0
  · subst he0
    simp only [if_true]
    by_cases hb : most < (nn : Int)
    · simp only [if_pos hb, if_neg (by decide : ¬ (3 : Int) = 0)]
      go_enter Try.func45, Try.ntmps45
      go_wp2_with fail
      refine HC.out.mono ?_
      rintro e w1 ⟨rfl, o1, h1⟩
      have H1 := hide h1
      clear h1 k1
      go_wp2_with fail
      go_loopw [8, 9, 10] (fun ve vl vi wr => ve = .int .i64 3 ∧ vi = .int .u64 0 ∧ vl = .slice none 0 0 ∧ w1 = wr) (fun _ _ _ _ => 0)
      case atStart => exact ⟨rfl, rfl, rfl, rfl⟩
      case round =>
        obtain ⟨rfl, rfl, rfl, rfl⟩ := hrel
        have gf := H1.out.hdr.frozen 1
        have gt := H1.out.k1
        go_wp2_with fail
        go_ret2
        have hmv := H1.out.move at_ hle
        exact ⟨o1.setCell (.inl (by simp)) _, hmv, none, 0, rfl, ⟨rfl, .inl ⟨rfl, rfl⟩⟩⟩
    · simp only [if_neg hb, if_true]
      rw [Int.toNat_natCast, List.drop_drop]
      have hnm : (nn : Int) ≤ 9223372036854775807 := by omega
      obtain ⟨lo, hlo⟩ : ∃ lo, lo = at_ + k0 := ⟨_, rfl⟩
      have HLO := hide hlo
      rw [← hlo]
      clear he
      go_enter Try.func45, Try.ntmps45
      go_wp2_with fail
      refine HC.out.mono ?_
      rintro e w1 ⟨rfl, o1, h1⟩
      rw [← hlo] at h1
      have H1 := hide h1
      clear h1 hlo k1
      go_wp2_with fail
      go_loopw [8, 9, 10] (fun ve vl vi wr => ∃ (i : Nat) (LA : Option Addr) (ca : Nat) (ws : List Nat), vi = .int .u64 (i : Int) ∧ vl = .slice LA ws.length ca ∧ Only [h] w wr ∧ Hid (wr.ownsRow w.heap.size 22 1 (.slice LA ws.length ca) ws.length (U64s ws)) ∧ i ≤ nn ∧ ((ve = .int .i64 0 ∧ ∃ K, Hid (rdL i (bs.drop lo) = some (ws, K)) ∧ RRd wr h A c bs (lo + K)) ∨ (ve = .int .i64 4 ∧ Hid (rdL nn (bs.drop lo) = none) ∧ ∃ at', RRd wr h A c bs at'))) (fun ve _ vi _ => (if intOf ve = 0 then 1 + (nn - (intOf vi).toNat) else 0))
      case atStart => exact ⟨0, none, 0, [], rfl, rfl, o1, hide ⟨rfl, .inl ⟨rfl, rfl⟩⟩, Nat.zero_le _, .inl ⟨rfl, 0, hide rfl, H1.out⟩⟩
      case round =>
        obtain ⟨i, LA, ca, ws, rfl, rfl, hO, hrow, hin, ⟨rfl, K, hK, hR⟩ | ⟨rfl, hno, at', hR⟩⟩ := hrel
        · obtain ⟨fl1, fl2, fl3⟩ := rdL_facts i _ ws K hK.out
          rw [List.length_drop] at fl3
          have hwl : ws.length ≤ 1048576 := by omega
          have FL1 := hide fl1
          clear fl1
          have hi0 : (0 : Int) ≤ (i : Int) := by omega
          by_cases hlt : i < nn
          · have i1 : (i : Int) < (nn : Int) := by omega
            have hcall := rrdnumber_any hR
            unfold RNumRead at hcall
            rw [← List.drop_drop] at hcall
            cases hx : rdN ((bs.drop lo).drop K) 0 0 with
            | none =>
              rw [resN_none hx] at hcall
              have hnn : rdL nn (bs.drop lo) = none := rdL_none (i + 1) nn _ (by simp only [rdL, hK.out, hx]) (by omega)
              have HNN := hide hnn
              have HCALL := hide hcall
              clear hnn hcall hx
              go_wp2_with fail
              refine HCALL.out.mono ?_
              rintro e w1 ⟨rfl, o1, hR1⟩
              have hO1 := hO.trans o1 (fun x hx => .inl hx)
              have hlt1 := hglt
              have hrow1 := own_only' hrow.out o1 (fun k hk => by have := (own_ge hrow.out k hk).1; simp; omega)
              obtain ⟨g2, c2, w2, hrun, hrow2, o2⟩ := app_u64 w.heap.size LA ws.length ca ws 0 0 rfl w1 hrow1 (by omega) hO1.size
              have hR2 := hR1.only o2 (fun hm => by have := (own_ge hrow1 _ hm).1; omega) (fun hp ad had hm => by have := (own_ge hrow1 _ hm).1; have := halt hp ad had; omega)
              have hO2 := hO1.trans o2 (fun x hx => .inr (own_ge hrow1 x hx).1)
              have HROW := hide hrow2
              clear hrow1 hrow2 o2 o1
              go_wp2_with fail
              go_roundw
              case rel => exact ⟨i + 1, some ⟨g2, 0, none⟩, c2, ws ++ [0], by go_num, by simp, hO2, by simpa using HROW, by omega, .inr ⟨rfl, HNN, _, hR2⟩⟩
              case measure => (first | (simp [intOf]; done) | (simp [intOf]; omega))
            | some vk =>
              obtain ⟨v, k⟩ := vk
              rw [resN_some hx] at hcall
              have hv := (rdN_bound _ 0 0 v k hx (by omega) (by omega)).1
              have hstep : rdL (i + 1) (bs.drop lo) = some (ws ++ [v], K + k) := by simp only [rdL, hK.out, hx]
              have HSTEP := hide hstep
              have HCALL := hide hcall
              clear hstep hcall hx
              go_wp2_with fail
              refine HCALL.out.mono ?_
              rintro e w1 ⟨rfl, o1, hR1⟩
              have hO1 := hO.trans o1 (fun x hx => .inl hx)
              have hrow1 := own_only' hrow.out o1 (fun k hk => by have := (own_ge hrow.out k hk).1; simp; omega)
              obtain ⟨g2, c2, w2, hrun, hrow2, o2⟩ := app_u64 w.heap.size LA ws.length ca ws v v rfl w1 hrow1 (by omega) hO1.size
              have hR2 := hR1.only o2 (fun hm => by have := (own_ge hrow1 _ hm).1; omega) (fun hp ad had hm => by have := (own_ge hrow1 _ hm).1; have := halt hp ad had; omega)
              have hO2 := hO1.trans o2 (fun x hx => .inr (own_ge hrow1 x hx).1)
              have HROW := hide hrow2
              clear hrow1 hrow2 o2 o1
              go_wp2_with fail
              go_roundw
              case rel => exact ⟨i + 1, some ⟨g2, 0, none⟩, c2, ws ++ [v], by go_num, by simp, hO2, by simpa using HROW, by omega, .inl ⟨rfl, K + k, HSTEP, by have := hR2; simp only [Nat.add_assoc] at this ⊢; exact this⟩⟩
              case measure => (first | (simp [intOf]; done) | (simp [intOf]; omega))
          · obtain rfl : i = nn := by omega
            have i1 : ¬ (i : Int) < (i : Int) := by omega
            go_wp2_with fail
            go_ret2
            rw [hK.out]
            refine ⟨hO, ?_, LA, ca, rfl, hrow.out⟩
            have hl := HLO.out
            show RRd wr h A c bs (at_ + (k0 + K))
            rw [show at_ + (k0 + K) = lo + K by omega]
            exact hR
        · have gf := hR.hdr.frozen 1
          have gt := hR.k1
          have HRR := hide hR
          clear hR
          go_wp2_with fail
          go_ret2
          rw [hno.out]
          have hmv := HRR.out.move at_ hle
          exact ⟨hO.setCell (.inl (by simp)) _, hmv, none, 0, rfl, ⟨rfl, .inl ⟨rfl, rfl⟩⟩⟩
  · have he4 : er = 4 := by omega
    subst he4
    simp only [if_neg he0]
    go_enter Try.func45, Try.ntmps45
    go_wp2_with fail
    refine HC.out.mono ?_
    rintro e w1 ⟨rfl, o1, h1⟩
    have H1 := hide h1
    clear h1 k1
    go_wp2_with fail
    go_loopw [8, 9, 10] (fun ve vl vi wr => ve = .int .i64 4 ∧ vi = .int .u64 0 ∧ vl = .slice none 0 0 ∧ w1 = wr) (fun _ _ _ _ => 0)
    case atStart => exact ⟨rfl, rfl, rfl, rfl⟩
    case round =>
      obtain ⟨rfl, rfl, rfl, rfl⟩ := hrel
      have gf := H1.out.hdr.frozen 1
      have gt := H1.out.k1
      go_wp2_with fail
      go_ret2
      have hmv := H1.out.move at_ hle
      exact ⟨o1.setCell (.inl (by simp)) _, hmv, none, 0, rfl, ⟨rfl, .inl ⟨rfl, rfl⟩⟩⟩
end Go.Proofs.Ytdaeaepfbnlaeaa
