/- Walks over wire: a list of pairs written (form, Put), a pair read. No condition. -/
import Derived.Test.YtdaeaepfbnlaeaaWi13
import Derived.Deep.RegionHeld3
namespace Go.Proofs.Ytdaeaepfbnlaeaa
open Go.RowKit
set_option linter.unusedVariables false
set_option linter.all false
set_option maxRecDepth 20000
attribute [local go_sem ↓] app_hide

set_option maxHeartbeats 2000000 in
theorem form_any (x y : Nat) (hx : x < 2 ^ 64) (hy : y < 2 ^ 64) (w : World) : Calls Try.prog 28 #[.agg #[.int .u64 x, .int .u64 y]] w (Fresh w (numF x ++ numF y)) := by
  have hb := Blk.new w 51 #[.int .u64 x, .int .u64 y]
  have o0 := (Only.refl [] w).alloc (.cells #[.int .u64 x, .int .u64 y] 51)
  have k0 : (w.alloc (.cells #[.int .u64 x, .int .u64 y] 51)).cell? ⟨w.heap.size, 0, none⟩ = some (.int .u64 x) := by simpa using hb.cell 0
  have k1 : (w.alloc (.cells #[.int .u64 x, .int .u64 y] 51)).cell? ⟨w.heap.size, 1, none⟩ = some (.int .u64 y) := by simpa using hb.cell 1
  obtain ⟨q1, hq1⟩ : ∃ q, Hid (numF x = q) := ⟨_, hide rfl⟩
  obtain ⟨q2, hq2⟩ : ∃ q, Hid (numF y = q) := ⟨_, hide rfl⟩
  have l1 : q1.length ≤ 10 := by rw [← hq1.out]; exact numF_len10 x hx
  have l2 : q2.length ≤ 10 := by rw [← hq2.out]; exact numF_len10 y hy
  have hc1 := fun W => number_any x hx W
  have hc2 := fun W => number_any y hy W
  rw [hq1.out] at hc1
  rw [hq2.out] at hc2
  rw [hq1.out, hq2.out]
  have C1 := hide hc1
  have C2 := hide hc2
  have O0 := hide o0
  have mk1 : True := trivial
  clear hc1 hc2 o0 hb
  go_enter Try.func28, Try.ntmps28
  go_wp2_with fail
  go_region_held3 (fun W => W.cell? ⟨w.heap.size, 0, none⟩ = some (.int .u64 x) ∧ W.cell? ⟨w.heap.size, 1, none⟩ = some (.int .u64 y)) (first | go_keep | exact ⟨k0, k1⟩ | exact ⟨ka0, ka1⟩) (first
    | (go_at_call 9; first
      | (clear mk1; refine (C1.out _).mono ?_; rintro e w1 ⟨o1, g1, c1, rfl, r1⟩; have a1 := (O0.out.drew).trans0 o1; have k0 := o1.keep0 (show (w.alloc (.cells #[.int .u64 x, .int .u64 y] 51)).drew.cell? ⟨w.heap.size, 0, none⟩ = _ from k0); have k1 := o1.keep0 (show (w.alloc (.cells #[.int .u64 x, .int .u64 y] 51)).drew.cell? ⟨w.heap.size, 1, none⟩ = _ from k1))
      | (refine (C2.out _).mono ?_; rintro e w2 ⟨o2, g2, c2, rfl, r2⟩; have a2 := a1.trans0 o2; have k0 := o2.keep0 k0; have k1 := o2.keep0 k1; have r1' := own_only' r1 o2 (by simp); obtain ⟨A3, c3, w3, hrun, hrow3, o3, hk3, hA3⟩ := run_app_src _ _ _ c1 q1 (some ⟨g2, 0, none⟩) q2.length c2 q2 w2 r1' rfl (Src.own r2) (by omega) (Nat.le_trans o1.size o2.size); have ka0 := o3.keep k0 (fun hm => by have := (own_ge r1' _ hm).1; simp at this; omega); have ka1 := o3.keep k1 (fun hm => by have := (own_ge r1' _ hm).1; simp at this; omega))))
  have HR := hide hrow3
  have HA := hide (hA3 (by simp))
  have a3 := a2.trans o3 (fun x hx => .inr (by have := (own_ge r1' x hx).1; simp at this; omega))
  clear hrow3 hA3 hrun r1 r1' r2 o1 o2 o3
  go_wp2_with fail
  go_ret
  obtain ⟨g3, rfl⟩ := HA.out
  have e : (q1 ++ q2).length = q1.length + q2.length := List.length_append
  refine ⟨a3, g3, c3, by rw [e]; rfl, ?_⟩
  rw [e]
  exact own_mono HR.out (by simp)

/-- A slice of pairs. -/
def Prs (w : World) (A : Option Addr) (L : List (Nat × Nat)) : Prop := ∀ (j x y : Nat), L[j]? = some (x, y) → x < 2 ^ 64 ∧ y < 2 ^ 64 ∧ ∃ a : Addr, A = some a ∧ w.cell? (a.add (j * 2)) = some (.int .u64 (x : Int)) ∧ w.cell? ⟨(a.add (j * 2)).block, (a.add (j * 2)).off + 1, none⟩ = some (.int .u64 (y : Int))
theorem Prs.only {w w' : World} {A : Option Addr} {L : List (Nat × Nat)} {S : List Nat} (h : Prs w A L) (ho : Only S w w') (hS : ∀ a, A = some a → a.block ∉ S) : Prs w' A L := fun j x y hj => by
  obtain ⟨hx, hy, a, rfl, h0, h1⟩ := h j x y hj
  exact ⟨hx, hy, a, rfl, ho.keep h0 (by rw [block_of_add]; exact hS a rfl), ho.keep h1 (by simp only [block_of_add]; exact hS a rfl)⟩
theorem Prs.only0 {w w' : World} {A : Option Addr} {L : List (Nat × Nat)} (h : Prs w A L) (ho : Only [] w w') : Prs w' A L := h.only ho (by simp)
def formF (p : Nat × Nat) : List UInt8 := numF p.1 ++ numF p.2
def formsF (L : List (Nat × Nat)) : List UInt8 := L.flatMap formF
theorem formsF_take_succ (L : List (Nat × Nat)) (j : Nat) (p : Nat × Nat) (h : L[j]? = some p) : formsF (L.take (j + 1)) = formsF (L.take j) ++ formF p := by
  unfold formsF
  rw [List.take_add_one, h]
  simp
theorem formF_len {x y : Nat} (hx : x < 2 ^ 64) (hy : y < 2 ^ 64) : (formF (x, y)).length ≤ 20 := by
  unfold formF
  rw [List.length_append]
  have := numF_len10 x hx
  have := numF_len10 y hy
  simp only
  omega
theorem eq53_some (f : FuncId) (a b : Array Value) (w : World) : (binOp .eql 53 (.func (.func f) a b) .nilFunc).run Try.prog w = .ok (.bool false) w := by kernel_rfl

/-- What Put answers. -/
def PutF (w : World) (L : List (Nat × Nat)) (e : Ending) (w' : World) : Prop := Only [] w w' ∧ ∃ (g c : Nat), e = .returned (.tuple #[.slice (some ⟨g, 0, none⟩) (numF L.length ++ formsF L).length c, .int .i64 0]) ∧ w'.ownsRow w.heap.size 5 1 (.slice (some ⟨g, 0, none⟩) (numF L.length ++ formsF L).length c) (numF L.length ++ formsF L).length (U8s (numF L.length ++ formsF L))
set_option maxHeartbeats 2000000 in
theorem put_any (A : Option Addr) (n c : Nat) (L : List (Nat × Nat)) (w : World) (hl : L.length = n) (hn : n ≤ 1048577) (hL : Prs w A L) : Calls Try.prog 27 #[.slice A n c, .func (.func 28) #[] #[]] w (PutF w L) := by
  have hq := eq53_some 28 #[] #[] w
  have HL := hide hL
  have HN := hide hl
  clear hL hl
  go_enter Try.func27, Try.ntmps27
  go_wp2_with fail
  refine (number_any n (by omega) w).mono ?_
  rintro e w1 ⟨o1, g1, c1, rfl, r1⟩
  have l10 := numF_len10 n (by omega)
  have R1 := hide r1
  clear hq r1
  go_wp2_with fail
  go_loopw [6, 17] (fun vb vi wr => ∃ (j cb gb : Nat) (done : List UInt8), vb = .slice (some ⟨gb, 0, none⟩) done.length cb ∧ vi = .int .i64 (j : Int) ∧ j ≤ n ∧ Only [] w wr ∧ Hid (done = numF n ++ formsF (L.take j)) ∧ done.length ≤ 10 + j * 20 ∧ Hid (wr.ownsRow w.heap.size 5 1 (.slice (some ⟨gb, 0, none⟩) done.length cb) done.length (U8s done))) (fun _ vi _ => n - (intOf vi).toNat)
  case atStart => exact ⟨0, c1, g1, numF n, rfl, rfl, Nat.zero_le _, o1, hide (by simp [formsF]), by omega, R1⟩
  case round =>
    obtain ⟨j, cb, gb, done, rfl, rfl, hj, hO, hD, hdl, hR⟩ := hrel
    by_cases hlt : j < n
    · obtain ⟨⟨x, y⟩, hp⟩ : ∃ p, L[j]? = some p := ⟨_, List.getElem?_eq_getElem (by rw [HN.out]; exact hlt)⟩
      obtain ⟨hx, hy, a, rfl, h0, h1⟩ := (HL.out.only0 hO) j x y hp
      have i0 : (0 : Int) ≤ (j : Int) := by omega
      have i1 : (j : Int) < (n : Int) := by omega
      have hfl := formF_len hx hy
      have HS := hide (formsF_take_succ L j (x, y) hp)
      obtain ⟨fq, hfq⟩ : ∃ q, Hid (formF (x, y) = q) := ⟨_, hide rfl⟩
      rw [hfq.out] at hfl
      have hcf := fun W => form_any x y hx hy W
      rw [show numF x ++ numF y = fq from hfq.out] at hcf
      have CF := hide hcf
      clear hp hcf
      go_wp2_with fail
      refine (CF.out _).mono ?_
      rintro e w2 ⟨o2, g2, c2, rfl, r2⟩
      have o2' := ((Only.refl [] wr).alloc (.cells #[.int .u64 x, .int .u64 y] 51)).trans0 o2
      have hR2 := own_only' hR.out o2' (by simp)
      obtain ⟨A3, c3, w3, hrun, hrow3, o3, hk3, hA3⟩ := run_app_src w.heap.size (some ⟨gb, 0, none⟩) done.length cb done (some ⟨g2, 0, none⟩) fq.length c2 fq w2 hR2 rfl (Src.own r2) (by omega) (Nat.le_trans hO.size o2'.size)
      have HA := hide (hA3 (by simp))
      have hO3 := (hO.trans0 o2').trans o3 (fun x hx => .inr (own_ge hR2 x hx).1)
      have HROW := hide hrow3
      clear hrow3 hk3 hA3 o3 hR2 o2' o2 r2 h0 h1
      go_wp2_with fail
      go_roundw
      case rel =>
        obtain ⟨g3, rfl⟩ := HA.out
        refine ⟨j + 1, c3, g3, done ++ fq, ?_, by go_num, by omega, hO3, hide ?_, by rw [List.length_append]; omega, ?_⟩
        · rw [List.length_append]
        · rw [hD.out, HS.out, hfq.out, List.append_assoc]
        · rw [List.length_append]; exact HROW
      case measure => simp [intOf]; omega
    · obtain rfl : j = n := by omega
      have i1 : ¬ (j : Int) < (j : Int) := by omega
      go_wp2_with fail
      go_ret2
      have e : L.take j = L := by rw [List.take_of_length_le (by rw [HN.out]; exact Nat.le_refl _)]
      have hd := hD.out
      rw [e, ← HN.out] at hd
      subst hd
      exact ⟨hO, gb, cb, rfl, hR.out⟩

/-- A pair read: the two numbers, the error, how far the place moves. -/
def resP (l : List UInt8) : (Nat × Nat) × Int × Nat :=
  if (resN l).2.1 = 0 then (((resN l).1, (resN (l.drop (resN l).2.2)).1), (resN (l.drop (resN l).2.2)).2.1, (resN l).2.2 + (resN (l.drop (resN l).2.2)).2.2) else ((0, 0), (resN l).2.1, (resN l).2.2)
def PairRead (w : World) (g gb cap : Nat) (bs : List UInt8) (at_ : Nat) (e : Ending) (w' : World) : Prop :=
  e = .returned (.tuple #[.agg #[.int .u64 (resP (bs.drop at_)).1.1, .int .u64 (resP (bs.drop at_)).1.2], .int .i64 (resP (bs.drop at_)).2.1]) ∧ Only [g] w w' ∧ Rd w' g gb cap bs (at_ + (resP (bs.drop at_)).2.2)
set_option maxHeartbeats 1000000 in
theorem pair_any {g gb cap at_ : Nat} {bs : List UInt8} {w : World} (h : Rd w g gb cap bs at_) : Calls Try.prog 30 #[.pointer (some ⟨g, 0, none⟩)] w (PairRead w g gb cap bs at_) := by
  have hlt := h.lt
  have o0 := (Only.refl [] w).alloc (.cells #[.int .u64 0, .int .u64 0] 51)
  have h0 := h.only0 o0
  have hn := rdnumber_any h0
  unfold NumRead at hn
  unfold PairRead resP
  by_cases he : (resN (bs.drop at_)).2.1 = 0
  · simp only [if_pos he]
    rw [he] at hn
    rw [List.drop_drop]
    obtain ⟨x, hx⟩ : ∃ x, Hid ((resN (bs.drop at_)).1 = x) := ⟨_, hide rfl⟩
    obtain ⟨k, hk⟩ : ∃ k, Hid ((resN (bs.drop at_)).2.2 = k) := ⟨_, hide rfl⟩
    rw [hx.out, hk.out] at hn
    rw [hx.out, hk.out]
    obtain ⟨r2, hr2⟩ : ∃ r2, Hid (resN (bs.drop (at_ + k)) = r2) := ⟨_, hide rfl⟩
    rw [hr2.out]
    obtain ⟨y, er, k2⟩ := r2
    have HN := hide hn
    clear hn h h0 he
    go_enter Try.func30, Try.ntmps30
    go_wp2_with fail
    refine HN.out.mono ?_
    rintro e w1 ⟨rfl, o1, hR1⟩
    have hb1 := (Blk.new w 51 #[.int .u64 0, .int .u64 0]).only o1 (by simp; omega)
    have hn := rdnumber_any hR1
    unfold NumRead at hn
    rw [hr2.out] at hn
    have HN2 := hide hn
    clear hn hR1
    go_wp2_with fail
    refine HN2.out.mono ?_
    rintro e w2 ⟨rfl, o2, hR2⟩
    have hb2 := hb1.only o2 (by simp; omega)
    have z0 : w2.cell? ⟨w.heap.size, 0, none⟩ = some (.int .u64 0) := by simpa using hb2.cell 0
    have z1 : w2.cell? ⟨w.heap.size, 1, none⟩ = some (.int .u64 0) := by simpa using hb2.cell 1
    have f0 := hb2.frozen 0
    have f1 := hb2.frozen 1
    go_wp2_with fail
    have hb3 := (hb2.set_ 0 (.int .u64 x)).set_ 1 (.int .u64 y)
    have y0 := hb3.cell 0
    have y1 := hb3.cell 1
    have oo : Only [w.heap.size] w2 ((w2.setCell ⟨w.heap.size, 0, none⟩ (.int .u64 x)).setCell ⟨w.heap.size, 1, none⟩ (.int .u64 y)) := ((Only.refl _ w2).setCell (.inl (by simp)) _).setCell (.inl (by simp)) _
    refine bodyPost_ret (v := .tuple #[.agg #[.int .u64 x, .int .u64 y], .int .i64 er]) ?_ rfl ?_
    · simp at y0 y1
      simp [results, Try.results30, go_sem, y0, y1]
    · refine ⟨rfl, (((o0.mono (by simp)).trans o1 (by simp)).trans o2 (by simp)).trans oo (fun x hx => .inr (by simp at hx; omega)), ?_⟩
      rw [← Nat.add_assoc]
      exact hR2.only oo (by simp; omega) (by simp; omega)
  · simp only [if_neg he]
    have he4 := resN_err (bs.drop at_)
    generalize (resN (bs.drop at_)).1 = x at hn
    generalize (resN (bs.drop at_)).2.1 = er at hn he he4 ⊢
    generalize (resN (bs.drop at_)).2.2 = k at hn ⊢
    obtain rfl : er = 4 := by omega
    have HN := hide hn
    clear hn h h0 he he4
    go_enter Try.func30, Try.ntmps30
    go_wp2_with fail
    refine HN.out.mono ?_
    rintro e w2 ⟨rfl, o2, hR2⟩
    have hb2 := (Blk.new w 51 #[.int .u64 0, .int .u64 0]).only o2 (by simp; omega)
    have z0 : w2.cell? ⟨w.heap.size, 0, none⟩ = some (.int .u64 0) := by simpa using hb2.cell 0
    have z1 : w2.cell? ⟨w.heap.size, 1, none⟩ = some (.int .u64 0) := by simpa using hb2.cell 1
    have f0 := hb2.frozen 0
    have f1 := hb2.frozen 1
    go_wp2_with fail
    have hb3 := (hb2.set_ 0 (.int .u64 0)).set_ 1 (.int .u64 0)
    have y0 := hb3.cell 0
    have y1 := hb3.cell 1
    have oo : Only [w.heap.size] w2 ((w2.setCell ⟨w.heap.size, 0, none⟩ (.int .u64 0)).setCell ⟨w.heap.size, 1, none⟩ (.int .u64 0)) := ((Only.refl _ w2).setCell (.inl (by simp)) _).setCell (.inl (by simp)) _
    refine bodyPost_ret (v := .tuple #[.agg #[.int .u64 0, .int .u64 0], .int .i64 4]) ?_ rfl ?_
    · simp at y0 y1
      simp [results, Try.results30, go_sem, y0, y1]
    · refine ⟨rfl, ((o0.mono (by simp)).trans o2 (by simp)).trans oo (fun x hx => .inr (by simp at hx; omega)), ?_⟩
      exact hR2.only oo (by simp; omega) (by simp; omega)
end Go.Proofs.Ytdaeaepfbnlaeaa
