/- Walks over wire: a list of pairs read (Take). No condition but at most 67108864 bytes. -/
import Derived.Test.YtdaeaepfbnlaeaaWi17
namespace Go.Proofs.Ytdaeaepfbnlaeaa
open Go.RowKit
set_option linter.unusedVariables false
set_option linter.all false
set_option maxRecDepth 20000
attribute [local go_sem ↓] app_hide

def U2s (l : List (Nat × Nat)) : List Value := l.flatMap fun (p : Nat × Nat) => [Value.int .u64 (p.1 : Int), Value.int .u64 (p.2 : Int)]
theorem length_U2s (l : List (Nat × Nat)) : (U2s l).length = l.length * 2 := by
  induction l with
  | nil => rfl
  | cons a l ih => simp only [U2s, List.flatMap_cons, List.length_append, List.length_cons, List.length_nil] at *; omega
theorem u2s_snoc (l : List (Nat × Nat)) (x y : Nat) : U2s l ++ [.int .u64 (x : Int), .int .u64 (y : Int)] = U2s (l ++ [(x, y)]) := by simp [U2s]
theorem u2s_get (l : List (Nat × Nat)) (i : Nat) (p : Nat × Nat) (h : l[i]? = some p) : (U2s l)[i * 2]? = some (.int .u64 (p.1 : Int)) ∧ (U2s l)[i * 2 + 1]? = some (.int .u64 (p.2 : Int)) := by
  induction l generalizing i with
  | nil => simp at h
  | cons a l ih =>
    rcases i with _ | i
    · simp at h
      subst h
      simp [U2s]
    · simp at h
      have := ih i h
      simp only [U2s, List.flatMap_cons, Nat.succ_mul] at *
      constructor
      · rw [show i * 2 + 2 = i * 2 + 1 + 1 from rfl, List.cons_append, List.getElem?_cons_succ, List.cons_append, List.getElem?_cons_succ]; exact this.1
      · rw [show i * 2 + 2 + 1 = i * 2 + 1 + 1 + 1 from rfl, List.cons_append, List.getElem?_cons_succ, List.cons_append, List.getElem?_cons_succ]; exact this.2
theorem pair_info : (Try.prog.info? 51).map (fun i => (i.zero, i.size, i.bytes)) = some (some (.agg #[.int .u64 0, .int .u64 0]), 2, 16) := by kernel_rfl
theorem app_pair (B : Nat) (A : Option Addr) (n c : Nat) (l : List (Nat × Nat)) (x y : Nat) (w : World) (hrow : w.ownsRow B 51 2 (.slice A n c) n (U2s l)) (hn : n + 1 ≤ 8796093022208) (hB : B ≤ w.heap.size) :
    ∃ (g' cap' : Nat) (w2 : World), (AppH #[50, 50] 50 #[.slice A n c, .slice (some ⟨w.heap.size, 0, none⟩) 1 1]).run Try.prog (w.alloc (.cells #[.int .u64 (x : Int), .int .u64 (y : Int)] 51)) = .ok (.slice (some ⟨g', 0, none⟩) (n + 1) cap') w2 ∧
      w2.ownsRow B 51 2 (.slice (some ⟨g', 0, none⟩) (n + 1) cap') (n + 1) (U2s (l ++ [(x, y)])) ∧ Only (blkOf A) w w2 := by
  obtain ⟨i0, hi, hz0, hz1, hz2⟩ := info_parts pair_info
  obtain ⟨g', cap', w2, hr2, h2, o2, hgg⟩ := append_at (P := Try.prog) (w.alloc (.cells #[.int .u64 x, .int .u64 y] 51)) B 50 50 51 i0 (.agg #[.int .u64 0, .int .u64 0]) 2 16 Try.underlying50 hi hz0 hz1 hz2 rfl (by omega) A n c (U2s l) (hrow.alloc _)
    ⟨w.heap.size, 0, none⟩ 1 1 [.int .u64 x, .int .u64 y] rfl (fun j u hj => by
      have := (Blk.new w 51 #[.int .u64 x, .int .u64 y]).cell j
      rw [add_mk, Nat.zero_add, this, List.getElem?_toArray]
      exact hj) (by simp [Value.oneCell']) (.inl (by omega)) (by unfold maxLen; omega) (by omega) (by simp; omega)
  rw [u2s_snoc] at h2
  exact ⟨g', cap', w2, hr2, h2, ((Only.refl _ w).alloc _).trans o2 (fun x hx => .inl hx)⟩

/-- Reading pairs, one behind the other. -/
def rdP : Nat → List UInt8 → Option (List (Nat × Nat) × Nat)
  | 0, _ => some ([], 0)
  | i + 1, l => match rdP i l with
    | none => none
    | some (d, K) => if (resP (l.drop K)).2.1 = 0 then some (d ++ [(resP (l.drop K)).1], K + (resP (l.drop K)).2.2) else none
theorem resN_ok (l : List UInt8) (h : (resN l).2.1 = 0) : 1 ≤ (resN l).2.2 ∧ (resN l).2.2 ≤ l.length := by
  unfold resN at h ⊢
  split at h
  · exact absurd h (by decide)
  · rename_i v k h1
    have := rdN_bound l 0 0 v k h1 (by omega) (by omega)
    simp only
    omega
theorem resP_ok (l : List UInt8) (h : (resP l).2.1 = 0) : 1 ≤ (resP l).2.2 ∧ (resP l).2.2 ≤ l.length := by
  unfold resP at h ⊢
  by_cases h1 : (resN l).2.1 = 0
  · simp only [if_pos h1] at h ⊢
    have a1 := resN_ok l h1
    have a2 := resN_ok _ h
    rw [List.length_drop] at a2
    omega
  · simp only [if_neg h1] at h
    exact absurd h h1
theorem resP_err (l : List UInt8) : (resP l).2.1 = 0 ∨ (resP l).2.1 = 4 := by
  unfold resP
  split
  · exact resN_err _
  · exact resN_err _
theorem resP_lt (l : List UInt8) : (resP l).1.1 < 2 ^ 64 ∧ (resP l).1.2 < 2 ^ 64 := by
  unfold resP
  split
  · exact ⟨resN_lt _, resN_lt _⟩
  · exact ⟨Nat.two_pow_pos 64, Nat.two_pow_pos 64⟩
theorem rdP_facts : ∀ (i : Nat) (l : List UInt8) (d : List (Nat × Nat)) (K : Nat), rdP i l = some (d, K) → d.length = i ∧ i ≤ K ∧ K ≤ l.length := by
  intro i
  induction i with
  | zero => intro l d K h; simp [rdP] at h; obtain ⟨rfl, rfl⟩ := h; simp
  | succ i ih =>
    intro l d K h
    simp only [rdP] at h
    split at h
    · cases h
    · rename_i d0 K0 h0
      split at h
      · rename_i h1
        simp only [Option.some.injEq, Prod.mk.injEq] at h
        obtain ⟨rfl, rfl⟩ := h
        have a1 := ih l d0 K0 h0
        have a2 := resP_ok _ h1
        rw [List.length_drop] at a2
        rw [List.length_append, List.length_singleton]
        omega
      · cases h
theorem rdP_none (i n : Nat) (l : List UInt8) (h : rdP i l = none) (hn : i ≤ n) : rdP n l = none := by
  induction n with
  | zero => obtain rfl : i = 0 := by omega
            exact h
  | succ n ih =>
    by_cases e : i = n + 1
    · subst e; exact h
    · simp only [rdP, ih (by omega)]
def finP (k0 : Nat) : Option (List (Nat × Nat) × Nat) → Int × List (Nat × Nat) × Nat
  | none => (4, [], 0)
  | some (d, K) => (0, d, k0 + K)
def resL2 (most : Int) (l : List UInt8) : Int × List (Nat × Nat) × Nat :=
  if (resC most l).2.1 = 0 then finP (resC most l).2.2 (rdP (resC most l).1.toNat (l.drop (resC most l).2.2)) else ((resC most l).2.1, [], 0)
def List2Read (w : World) (g gb cap : Nat) (bs : List UInt8) (at_ : Nat) (er : Int) (ds : List (Nat × Nat)) (k : Nat) (e : Ending) (w' : World) : Prop :=
  Only [g] w w' ∧ Rd w' g gb cap bs (at_ + k) ∧ ∃ (A : Option Addr) (c : Nat), e = .returned (.tuple #[.slice A ds.length c, .int .i64 er]) ∧ w'.ownsRow w.heap.size 51 2 (.slice A ds.length c) ds.length (U2s ds)
theorem eq56_some (f : FuncId) (a b : Array Value) (w : World) : (binOp .eql 56 (.func (.func f) a b) .nilFunc).run Try.prog w = .ok (.bool false) w := by kernel_rfl

theorem own0 {B : Nat} (w1 : World) (h : B ≤ w1.heap.size) : (w1.alloc (.cells #[] 51)).ownsRow B 51 2 (.slice (some ⟨w1.heap.size, 0, none⟩) 0 0) 0 (U2s []) := by
  refine ⟨rfl, .inr ⟨w1.heap.size, 0, #[], rfl, h, Blk.new w1 51 #[], Nat.le_refl _, by unfold maxLen; omega, rfl, rfl⟩⟩
set_option maxHeartbeats 4000000 in
theorem take2_any {g gb cap at_ : Nat} {bs : List UInt8} {w : World} (most : Int) (hm : most ≤ 9223372036854775807) (hsm : bs.length ≤ 67108864) (h : Rd w g gb cap bs at_) :
    Calls Try.prog 29 #[.pointer (some ⟨g, 0, none⟩), .int .i64 most, .func (.func 30) #[] #[]] w (List2Read w g gb cap bs at_ (resL2 most (bs.drop at_)).1 (resL2 most (bs.drop at_)).2.1 (resL2 most (bs.drop at_)).2.2) := by
  have hc := count_any most hm h
  obtain ⟨f1, f2, f3, f4⟩ := resC_facts most (bs.drop at_)
  have hmn : (resC most (bs.drop at_)).2.1 = 0 → 0 ≤ most := fun he => by
    unfold resC at he
    by_cases h0 : most < 0
    · simp only [if_pos h0] at he; exact absurd he (by decide)
    · omega
  unfold CountRead at hc
  unfold resL2
  rw [List.drop_drop]
  generalize (resC most (bs.drop at_)).1 = n at hc f1 f2 f3 f4 ⊢
  generalize (resC most (bs.drop at_)).2.1 = er at hc f1 f2 f3 f4 hmn ⊢
  generalize (resC most (bs.drop at_)).2.2 = k0 at hc f1 f2 f3 f4 ⊢
  rw [List.length_drop] at f1
  have hle := h.le
  have hmx := h.max
  have k1 := h.k1
  have hglt := h.lt
  have HC := hide hc
  have H := hide h
  have hq := eq56_some 30 #[] #[] w
  clear hc h
  by_cases he : er = 0
  · subst he
    simp only [if_true]
    obtain ⟨nn, rfl⟩ : ∃ nn : Nat, n = nn := ⟨n.toNat, by omega⟩
    rw [Int.toNat_natCast]
    have hnm : (nn : Int) ≤ 9223372036854775807 := by have := f3 (hmn rfl); omega
    clear f3 f4 hmn
    obtain ⟨lo, hlo⟩ : ∃ lo, lo = at_ + k0 := ⟨_, rfl⟩
    have HLO := hide hlo
    rw [← hlo]
    go_enter Try.func29, Try.ntmps29
    go_wp2_with fail
    refine (there_yes H.out).mono ?_
    rintro e w' ⟨rfl, rfl⟩
    go_wp2_with fail
    refine HC.out.mono ?_
    rintro e w1 ⟨rfl, o1, h1⟩
    rw [← hlo] at h1
    have H1 := hide h1
    have hsz1 := o1.size
    clear h1 hlo k1 hq
    go_wp2_with fail
    go_loopw [10, 11, 12] (fun ve vl vi wr => ∃ (i : Nat) (LA : Option Addr) (ca : Nat) (ws : List (Nat × Nat)), vi = .int .i64 (i : Int) ∧ vl = .slice LA ws.length ca ∧ Only [g] w wr ∧ Hid (wr.ownsRow w.heap.size 51 2 (.slice LA ws.length ca) ws.length (U2s ws)) ∧ i ≤ nn ∧ ((ve = .int .i64 0 ∧ ∃ K, Hid (rdP i (bs.drop lo) = some (ws, K)) ∧ Rd wr g gb cap bs (lo + K)) ∨ (ve = .int .i64 4 ∧ Hid (rdP nn (bs.drop lo) = none) ∧ ∃ at', Rd wr g gb cap bs at'))) (fun ve _ vi _ => (if intOf ve = 0 then 1 + (nn - (intOf vi).toNat) else 0))
    case atStart => exact ⟨0, _, 0, [], rfl, rfl, o1.alloc _, hide (own0 w1 hsz1), Nat.zero_le _, .inl ⟨rfl, 0, hide rfl, H1.out.only0 ((Only.refl [] _).alloc _)⟩⟩
    case round =>
      obtain ⟨i, LA, ca, ws, rfl, rfl, hO, hrow, hin, ⟨rfl, K, hK, hR⟩ | ⟨rfl, hno, at', hR⟩⟩ := hrel
      · obtain ⟨fl1, fl2, fl3⟩ := rdP_facts i _ ws K hK.out
        rw [List.length_drop] at fl3
        have hwl : ws.length ≤ 67108864 := by omega
        have FL1 := hide fl1
        clear fl1
        have hi0 : (0 : Int) ≤ (i : Int) := by omega
        by_cases hlt : i < nn
        · have i1 : (i : Int) < (nn : Int) := by omega
          have oz := (Only.refl [] wr).alloc (.cells #[.int .u64 0, .int .u64 0] 51)
          have hcall := pair_any (hR.only0 oz)
          have hzb := Blk.new wr 51 #[.int .u64 0, .int .u64 0]
          have hRlt := hR.lt
          unfold PairRead at hcall
          rw [← List.drop_drop] at hcall
          have hpe := resP_err ((bs.drop lo).drop K)
          have hpl := resP_lt ((bs.drop lo).drop K)
          obtain ⟨⟨⟨x, y⟩, er, k⟩, hq⟩ : ∃ q, resP ((bs.drop lo).drop K) = q := ⟨_, rfl⟩
          rw [hq] at hcall hpe hpl
          have hsome : er = 0 → rdP (i + 1) (bs.drop lo) = some (ws ++ [(x, y)], K + k) := fun he => by simp only [rdP, hK.out, hq]; rw [if_pos he]
          have hnone : ¬ er = 0 → rdP nn (bs.drop lo) = none := fun he => rdP_none (i + 1) nn _ (by simp only [rdP, hK.out, hq]; rw [if_neg he]) (by omega)
          have HSOME := hide hsome
          have HNONE := hide hnone
          have HCALL := hide hcall
          have HPE := hide hpe
          clear hsome hnone hcall hq hpe
          go_wp2_with fail
          refine HCALL.out.mono ?_
          rintro e w1 ⟨rfl, o1', hR1⟩
          have hz1 := hzb.only o1' (by simp; omega)
          have z0 : w1.cell? ⟨wr.heap.size, 0, none⟩ = some (.int .u64 0) := by simpa using hz1.cell 0
          have z1 : w1.cell? ⟨wr.heap.size, 1, none⟩ = some (.int .u64 0) := by simpa using hz1.cell 1
          have f0 := hz1.frozen 0
          have f1 := hz1.frozen 1
          have hs1 := o1'.size
          have hs2 : wr.heap.size < w1.heap.size := by simp at hs1; omega
          have oc : Only [wr.heap.size] w1 ((w1.setCell ⟨wr.heap.size, 0, none⟩ (.int .u64 x)).setCell ⟨wr.heap.size, 1, none⟩ (.int .u64 y)) := ((Only.refl _ w1).setCell (.inl (by simp)) _).setCell (.inl (by simp)) _
          have hb3 := (hz1.set_ 0 (.int .u64 x)).set_ 1 (.int .u64 y)
          have y0 := hb3.cell 0
          have y1 := hb3.cell 1
          have hRc := hR1.only oc (by simp; omega) (by simp; omega)
          have hszw := hO.size
          have hO1 : Only [g] w ((w1.setCell ⟨wr.heap.size, 0, none⟩ (.int .u64 x)).setCell ⟨wr.heap.size, 1, none⟩ (.int .u64 y)) := ((hO.alloc _).trans o1' (fun x hx => .inl hx)).trans oc (fun x hx => .inr (by simp at hx; omega))
          have hrow1 : ((w1.setCell ⟨wr.heap.size, 0, none⟩ (.int .u64 x)).setCell ⟨wr.heap.size, 1, none⟩ (.int .u64 y)).ownsRow w.heap.size 51 2 (.slice LA ws.length ca) ws.length (U2s ws) :=
            own_only' (own_only' (hrow.out.alloc (.cells #[.int .u64 0, .int .u64 0] 51)) o1' (fun k hk => by have := (own_ge hrow.out k hk).1; simp; omega)) oc (fun k hk => by have := (own_ge hrow.out k hk).2; simp; omega)
          simp at y0 y1
          generalize hWW : (w1.setCell ⟨wr.heap.size, 0, none⟩ (.int .u64 x)).setCell ⟨wr.heap.size, 1, none⟩ (.int .u64 y) = WW at oc hb3 hRc hO1 hrow1
          obtain ⟨g2, c2, w2, hrun, hrow2, o2⟩ := app_pair w.heap.size LA ws.length ca ws x y WW hrow1 (by omega) hO1.size
          have hR2 := hRc.only o2 (fun hm => by have := (own_ge hrow1 _ hm).1; omega) (fun hm => by have := (own_ge hrow1 _ hm).1; omega)
          have hO2 := hO1.trans o2 (fun x hx => .inr (own_ge hrow1 x hx).1)
          have HROW := hide hrow2
          have hWs : WW.heap.size = w1.heap.size := by rw [← hWW]; simp
          rw [hWs] at hrun
          clear hrow1 hrow2 o2 o1' oc hb3 hRc hO1 hWs
          subst hWW
          go_wp2_with fail
          go_roundw
          case rel =>
            refine ⟨i + 1, some ⟨g2, 0, none⟩, c2, ws ++ [(x, y)], by go_num, by simp, hO2, by simpa using HROW, by omega, ?_⟩
            by_cases he : er = 0
            · subst he
              exact .inl ⟨rfl, K + k, hide (HSOME.out rfl), by have := hR2; simp only [Nat.add_assoc] at this ⊢; exact this⟩
            · have h4 : er = 4 := by have := HPE.out; omega
              subst h4
              exact .inr ⟨rfl, hide (HNONE.out (by decide)), _, hR2⟩
          case measure =>
            rcases HPE.out with he | he
            · rw [he]; (first | (simp [intOf]; done) | (simp [intOf]; omega))
            · rw [he]; (first | (simp [intOf]; done) | (simp [intOf]; omega))
        · obtain rfl : i = nn := by omega
          have i1 : ¬ (i : Int) < (i : Int) := by omega
          go_wp2_with fail
          go_ret2
          rw [hK.out]
          refine ⟨hO, ?_, LA, ca, rfl, hrow.out⟩
          have hl := HLO.out
          show Rd wr g gb cap bs (at_ + (k0 + K))
          rw [show at_ + (k0 + K) = lo + K by omega]
          exact hR
      · have gf := hR.hdr.frozen 1
        have gt := hR.k1
        have HRR := hide hR
        clear hR
        go_wp2_with fail
        go_ret2
        rw [hno.out]
        have hmv := HRR.out.move at_ hle
        exact ⟨hO.setCell (.inl (by simp)) _, hmv, none, 0, rfl, ⟨rfl, .inl ⟨rfl, rfl⟩⟩⟩
  · simp only [if_neg he]
    have he' : (er == 0) = false := by simpa using he
    clear f3 hmn
    go_enter Try.func29, Try.ntmps29
    go_wp2_with fail
    refine (there_yes H.out).mono ?_
    rintro e w' ⟨rfl, rfl⟩
    go_wp2_with fail
    refine HC.out.mono ?_
    rintro e w1 ⟨rfl, o1, h1⟩
    have H1 := hide h1
    clear h1 k1 hq
    go_wp2_with fail
    go_loopw [10, 11, 12] (fun ve vl vi wr => ve = .int .i64 er ∧ vi = .int .i64 0 ∧ (∃ (LA : Option Addr) (m ca : Nat), vl = .slice LA m ca) ∧ Only [g] w wr ∧ ∃ at', Rd wr g gb cap bs at') (fun _ _ _ _ => 0)
    case atStart => exact ⟨rfl, rfl, ⟨_, _, _, rfl⟩, o1.alloc _, _, H1.out.only0 ((Only.refl [] _).alloc _)⟩
    case round =>
      obtain ⟨rfl, rfl, ⟨LA, m, ca, rfl⟩, hO, at', hR⟩ := hrel
      have gf := hR.hdr.frozen 1
      have gt := hR.k1
      have HRR := hide hR
      clear hR
      go_wp2_with fail
      go_ret2
      have hmv := HRR.out.move at_ hle
      exact ⟨hO.setCell (.inl (by simp)) _, hmv, none, 0, rfl, ⟨rfl, .inl ⟨rfl, rfl⟩⟩⟩
end Go.Proofs.Ytdaeaepfbnlaeaa
