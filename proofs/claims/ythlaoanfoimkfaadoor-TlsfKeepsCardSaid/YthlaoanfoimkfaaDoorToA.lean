/- Tlsf: TlsfSteps' walk; the arguments, opened. No condition but what each theorem says. -/
import Derived.Test.YthlaoanfoimkfaaDoorTmA
import Derived.Deep.Slices
import Derived.Deep.Fields
import Derived.ChangeSame
import Derived.ProofKit
import Derived.OpenShut
import Derived.ChangeOld
import Derived.Lib.LaidTab
namespace Go.Proofs.YthlaoanfoimkfaaDoor
open Go.RowKit Go.Shelf
set_option linter.unusedVariables false
set_option linter.all false
set_option maxRecDepth 100000
/-- A row of steps. -/
def StAt (w : World) (A : Option Addr) (n : Nat) : Prop := ∀ k, k < n → ∃ (a : Addr) (kd nn q at_ : Int) (odd : Bool) (wv : Nat), A = some a ∧ w.cell? (a.add (k * 6)) = some (.int .i64 kd) ∧ w.cell? ⟨(a.add (k * 6)).block, (a.add (k * 6)).off + 1, none⟩ = some (.int .i64 nn) ∧ w.cell? ⟨(a.add (k * 6)).block, (a.add (k * 6)).off + 2, none⟩ = some (.int .i64 q) ∧
  w.cell? ⟨(a.add (k * 6)).block, (a.add (k * 6)).off + 3, none⟩ = some (.int .i64 at_) ∧ w.cell? ⟨(a.add (k * 6)).block, (a.add (k * 6)).off + 4, none⟩ = some (.bool odd) ∧ w.cell? ⟨(a.add (k * 6)).block, (a.add (k * 6)).off + 5, none⟩ = some (.int .u32 (wv : Nat)) ∧
  (-9223372036854775808 ≤ q ∧ q ≤ 9223372036854775807) ∧ (-9223372036854775808 ≤ at_ ∧ at_ ≤ 9223372036854775807) ∧ wv < 4294967296
theorem Below.keep {w w' : World} (b : Below w.heap.size w w') {p : Addr} {v : Value} (h : w.cell? p = some v) : w'.cell? p = some v := (b.cell (World.block_lt_of_cell? w p h)).trans h
theorem StAt.below {w w' : World} {A : Option Addr} {n : Nat} (h : StAt w A n) (b : Below w.heap.size w w') : StAt w' A n := fun k hk => by
  obtain ⟨a, kd, nn, q, at_, odd, wv, e, h0, h1, h2, h3, h4, h5, r⟩ := h k hk
  exact ⟨a, kd, nn, q, at_, odd, wv, e, Below.keep b h0, Below.keep b h1, Below.keep b h2, Below.keep b h3, Below.keep b h4, Below.keep b h5, r⟩
section
variable {w w' w1 w2 : World} {p h g gb cap mb r gB gM N base n : Nat} {m : Nat → Nat}
theorem stands_SP (hS : SP base p N n w) (h0 : 0 < base) (leave : Int) : Calls Tryd.prog 12 #[.pointer (some ⟨p, 0, none⟩), .int .i64 leave] w fun e w' => e = .returned (.bool true) ∧ Below base w w' ∧ SP base p N n w' := by
  obtain ⟨hE, X, h, g, gb, cap, mb, r, gB, gM, A, c, B, L, m, M, l, P, hag, hl⟩ := hS
  refine (stands_any P hE h0 leave).mono ?_
  rintro e w' ⟨he, b, P'⟩
  exact ⟨he, b, hE.below b h0, X, h, g, gb, cap, mb, r, gB, gM, A, c, B, L, m, M, l, P', hag, hl⟩
/-- The law's state at its start. -/
theorem SP.init (hE : Env w) (o1 : Only [] w w1) (H1 : Hp w1 h g gb cap mb N [⟨112, N - 112, 1⟩] (insL (fun _ => []) (cls (N - 112)) 112) m) (a1 : w.heap.size ≤ h) (a2 : w.heap.size ≤ g) (a3 : w.heap.size ≤ gb) (a4 : w.heap.size ≤ mb)
    (o2 : Only [] w1 w2) (D2 : @Dr ⟨fun _ _ => 0⟩ w2 r gB gM [⟨112, N - 112, 1⟩] (insL (fun _ => []) (cls (N - 112)) 112) (List.replicate N 0)) (b1 : w1.heap.size ≤ r) (b2 : w1.heap.size ≤ gB) (b3 : w1.heap.size ≤ gM) :
    Below w.heap.size w (w2.alloc (.cells #[.pointer (some ⟨h, 0, none⟩), .pointer (some ⟨r, 0, none⟩), .slice none 0 0] 31)) ∧ SP w.heap.size w2.heap.size N 0 (w2.alloc (.cells #[.pointer (some ⟨h, 0, none⟩), .pointer (some ⟨r, 0, none⟩), .slice none 0 0] 31)) := by
  have o3 := (Only.refl [] w2).alloc (.cells #[.pointer (some ⟨h, 0, none⟩), .pointer (some ⟨r, 0, none⟩), .slice none 0 0] 31)
  have o4 := (o1.trans0 o2).trans0 o3
  have s1 := o1.size
  have s2 := o2.size
  have hl := H1.lt
  have h1 := hE.one
  refine ⟨o4.below, hE.only o4 (by simp), ⟨fun _ _ => 0⟩, h, g, gb, cap, mb, r, gB, gM, none, 0, [⟨112, N - 112, 1⟩], insL (fun _ => []) (cls (N - 112)) 112, m, List.replicate N 0, [], ?_, fun b hb hk => ?_, Nat.le_refl _⟩
  · exact @Pr.mk ⟨fun _ _ => 0⟩ _ _ _ _ _ _ _ _ _ _ _ _ _ _ _ _ _ _ _ _ _ (Blk.new w2 31 _) (by simpa [NV] using World.ownsRow_nil ..) (fun q hq => by cases hq) ((H1.only0 o2).only0 o3) (@Dr.only0 _ _ _ _ _ _ _ _ ⟨fun _ _ => 0⟩ D2 o3) (by simp) (by omega) (by omega) ⟨by omega, a1, a2, a3, a4, by omega, by omega, by omega⟩ o4.size (fun t ht => by cases ht)
  · rw [List.mem_singleton.1 hb] at hk
    simp at hk
set_option maxHeartbeats 8000000 in
theorem steps_in (hE : Env w) (hN : 256 ≤ N ∧ N ≤ 65536 ∧ N % 8 = 0) {A : Option Addr} {nl c : Nat} (hst : StAt w A nl) (leave : Int) : Calls Tryd.prog 4 #[.int .i64 N, .slice A nl c, .int .i64 leave] w fun e w' => e = .returned (.bool true) ∧ Below w.heap.size w w' := by
  have MD := Lib.hid (made_yes hN (w := w))
  have HST := Lib.hid hst
  have HE := Lib.hid hE
  have h0 : 0 < w.heap.size := hE.one
  have hN2 : ¬ (65536 : Int) < (N : Int) := by omega
  have DN : Hid (∀ W, Only [] w W → Calls Tryd.prog 7 #[.int .i64 N] W fun e w' => ∃ r gB gM, e = .returned (.pointer (some ⟨r, 0, none⟩)) ∧ Only [] W w' ∧ @Dr ⟨fun _ _ => 0⟩ w' r gB gM [⟨112, N - 112, 1⟩] (insL (fun _ => []) (cls (N - 112)) 112) (List.replicate N 0) ∧ W.heap.size ≤ r ∧ W.heap.size ≤ gB ∧ W.heap.size ≤ gM) := Lib.hid fun W o => @dnew_any W N ⟨fun _ _ => 0⟩ (by have := o.size; show 0 < _; omega) hN
  clear hst hE
  go_enter Tryd.func4, Tryd.ntmps4
  go_wp2_with (first
    | (go_at_call 5; (with_reducible refine MD.out.mono ?_); rintro e w1 ⟨h, g, gb, cap, mb, m, rfl, o1, H1, a1, a2, a3, a4⟩; have HO1 := Lib.hid o1; have HH1 := Lib.hid H1; clear o1 H1)
    | (go_at_call 7; (with_reducible refine (DN.out _ HO1.out).mono ?_); rintro e w2 ⟨r, gB, gM, rfl, o2, D2, b1, b2, b3⟩; have HI := Lib.hid (SP.init HE.out HO1.out HH1.out a1 a2 a3 a4 o2 D2 b1 b2 b3); clear o2 D2 b1 b2 b3))
  obtain ⟨p, hp⟩ : ∃ p, w2.heap.size = p := ⟨_, rfl⟩
  have HI2 := Lib.hid (HI.out.2)
  rw [hp] at HI2 ⊢
  obtain ⟨W3, hW3⟩ : ∃ W3, w2.alloc (.cells #[.pointer (some ⟨h, 0, none⟩), .pointer (some ⟨r, 0, none⟩), .slice none 0 0] 31) = W3 := ⟨_, rfl⟩
  rw [hW3] at HI HI2 ⊢
  go_loopw [9] (fun vi wr => ∃ i : Nat, i ≤ nl ∧ i ≤ 120 ∧ vi = .int .i64 (i : Nat) ∧ Hid (Below w.heap.size w wr ∧ SP w.heap.size p N i wr)) (fun vi _ => nl - (intOf vi).toNat)
  case atStart => exact ⟨0, by omega, by omega, rfl, Lib.hid ⟨HI.out.1, HI2.out⟩⟩
  case round =>
    obtain ⟨i, hi, hi2, rfl, hj⟩ := hrel
    by_cases hlt : i < nl ∧ i < 120
    · have j1 : (i : Int) < (nl : Int) := by omega
      have j0 : (0 : Int) ≤ (i : Int) := by omega
      have j2 : (i : Int) < 120 := by omega
      obtain ⟨a, kd, nn, q, at_, odd, wv, rfl, k0, k1, k2, k3, k4, k5, rq, ra, rw_⟩ := (HST.out.below hj.out.1) i hlt.1
      have DO : Hid (Calls Tryd.prog 8 #[.pointer (some ⟨p, 0, none⟩), .agg #[.int .i64 kd, .int .i64 nn, .int .i64 q, .int .i64 at_, .bool odd, .int .u32 wv]] wr fun e w' => e = .returned (.bool true) ∧ Below w.heap.size wr w' ∧ SP w.heap.size p N (i + 1) w') := Lib.hid (do_any hj.out.2 h0 (by omega) kd nn q at_ rq ra odd rw_)
      clear hlt rq ra rw_
      go_wp2_with (first
        | (go_at_call 8; (with_reducible refine DO.out.mono ?_); rintro e w4 ⟨rfl, b4, s4⟩; have B4 := Lib.hid b4; have S4 := Lib.hid s4; clear b4 s4)
        | (go_at_call 12; refine (stands_SP S4.out h0 leave).mono ?_; rintro e w5 ⟨rfl, b5, s5⟩; have B5 := Lib.hid b5; have S5 := Lib.hid s5; clear b5 s5))
      go_roundw
      case rel => exact ⟨i + 1, by omega, by omega, by go_num, Lib.hid ⟨(hj.out.1.trans B4.out).trans B5.out, S5.out⟩⟩
      case measure => simp [intOf]; omega
    · have KN := Lib.hid (known_any hj.out.2.1)
      by_cases e1 : i < nl
      · have j1 : (i : Int) < (nl : Int) := by omega
        have j2 : ¬ (i : Int) < 120 := by omega
        clear hlt
        go_wp2_with (go_at_call 6; (with_reducible refine KN.out.mono ?_); rintro e w4 ⟨rfl, o4⟩)
        go_ret
        exact ⟨by simp, hj.out.1.trans (o4.to (by simp) hj.out.1.size)⟩
      · have j1 : ¬ (i : Int) < (nl : Int) := by omega
        clear hlt
        go_wp2_with (go_at_call 6; (with_reducible refine KN.out.mono ?_); rintro e w4 ⟨rfl, o4⟩)
        go_ret
        exact ⟨by simp, hj.out.1.trans (o4.to (by simp) hj.out.1.size)⟩
set_option maxHeartbeats 4000000 in
theorem steps_out (hE : Env w) {s : Int} (hN : ¬ (256 ≤ s ∧ s ≤ 65536 ∧ s % 8 = 0)) (hr : -9223372036854775808 ≤ s ∧ s ≤ 9223372036854775807) {A : Option Addr} {nl c : Nat} (leave : Int) : Calls Tryd.prog 4 #[.int .i64 s, .slice A nl c, .int .i64 leave] w fun e w' => e = .returned (.bool true) ∧ Below w.heap.size w w' := by
  have MD := Lib.hid (made_no hN hr (w := w))
  have KN := Lib.hid (known_any hE)
  rcases (by omega : s < 256 ∨ ¬ s < 256 ∧ 65536 < s ∨ ¬ s < 256 ∧ ¬ 65536 < s ∧ s % 8 ≠ 0) with h1 | ⟨h1, h2⟩ | ⟨h1, h2, h3⟩
  · clear hN
    go_enter Tryd.func4, Tryd.ntmps4
    go_wp2_with (first
      | (go_at_call 5; (with_reducible refine MD.out.mono ?_); rintro e w' ⟨rfl, rfl⟩)
      | (go_at_call 6; (with_reducible refine KN.out.mono ?_); rintro e w4 ⟨rfl, o4⟩))
    go_ret
    exact ⟨by simp, o4.below⟩
  · clear hN
    go_enter Tryd.func4, Tryd.ntmps4
    go_wp2_with (first
      | (go_at_call 5; (with_reducible refine MD.out.mono ?_); rintro e w' ⟨rfl, rfl⟩)
      | (go_at_call 6; (with_reducible refine KN.out.mono ?_); rintro e w4 ⟨rfl, o4⟩))
    go_ret
    exact ⟨by simp, o4.below⟩
  · have h4 : ¬ s.tmod 8 = 0 := by rw [Int.tmod_eq_emod_of_nonneg (by omega)]; exact h3
    have h5 : (s.tmod 8 == 0) = false := by simp; exact h4
    have h6 : (s.tmod 8 != 0) = true := by simp; exact h4
    have h7 : (s % 8 == 0) = false := by simp; omega
    have h8 : (s % 8 != 0) = true := by simp; omega
    clear hN
    go_enter Tryd.func4, Tryd.ntmps4
    go_wp2_with (first
      | (go_at_call 5; (with_reducible refine MD.out.mono ?_); rintro e w' ⟨rfl, rfl⟩)
      | (go_at_call 6; (with_reducible refine KN.out.mono ?_); rintro e w4 ⟨rfl, o4⟩))
    go_ret
    exact ⟨by simp, o4.below⟩
theorem steps_any (hE : Env w) {s : Int} (hr : -9223372036854775808 ≤ s ∧ s ≤ 9223372036854775807) {A : Option Addr} {nl c : Nat} (hst : StAt w A nl) (leave : Int) : Calls Tryd.prog 4 #[.int .i64 s, .slice A nl c, .int .i64 leave] w fun e w' => e = .returned (.bool true) ∧ Below w.heap.size w w' := by
  by_cases hN : 256 ≤ s ∧ s ≤ 65536 ∧ s % 8 = 0
  · obtain ⟨N, rfl⟩ : ∃ N : Nat, s = N := ⟨s.toNat, by omega⟩
    exact steps_in hE (by omega) hst leave
  · exact steps_out hE hN hr leave
end
end Go.Proofs.YthlaoanfoimkfaaDoor
namespace Go.Proofs.YthlaoanfoimkfaaDoor
open Go.ChangeShapes Go.WideShapes Go.ChangeAt Go.RowKit Go.Deep
set_option linter.unusedVariables false
set_option linter.all false
set_option maxRecDepth 20000
section
variable {H : Type} {enc : TypeId × Value → H} {P : Program} {w : World} {base : Nat} {spare : Nat → Bool} {held : Bool}
theorem open_slice_fields {t e : TypeId} {fs : Array Field} {fuel : Nat} {cs : List Value} {x : DataW H × List MemPlace} (ht : P.underlying t = some (.slice e)) (he : P.underlying e = some (.struct fs))
    (hone : oneCellFields P fs = true) (hC : P.cellsOf e = fs.size) (h : DataW.trod enc P w base spare held fuel t cs = some x) :
    (cs = [.slice none 0 0] ∧ x = (.nil, [])) ∨
    ∃ (a : Addr) (len cap m : Nat) (D : Nat → DataW H) (Pl : Nat → List MemPlace), cs = [.slice (some a) len cap] ∧ base ≤ a.block ∧ len ≤ cap ∧ cap ≤ maxLen ∧ m = (if spare a.block then cap else len) ∧
      x = (.slice ((List.range len).map D) ((List.range (m - len)).map fun j => D (len + j)), MemPlace.row a (m * fs.size) ++ (List.range m).flatMap Pl) ∧
      ∀ i, i < m → ∃ (ys : List (DataW H × List MemPlace)) (n : Nat), D i = .agg (ys.map (·.1)) ∧ Pl i = ys.flatMap (·.2) ∧ ys.length = fs.size ∧
        ∀ (j : Nat) (f : Field), fs[j]? = some f → ∃ (v : Value) (y : DataW H × List MemPlace), w.cell? (a.add (i * fs.size + j)) = some v ∧ ys[j]? = some y ∧ DataW.trod enc P w base spare held n f.type [v] = some y := by
  rcases open_slice ht h with h0 | ⟨a, len, cap, m, n, D, Pl, hcs, hb, hl, hm, hmm, hx, hi⟩
  · exact .inl h0
  · refine .inr ⟨a, len, cap, m, D, Pl, hcs, hb, hl, hm, hmm, by rw [hC] at hx; exact hx, fun i him => ?_⟩
    obtain ⟨cs', hc, ht'⟩ := hi i him
    rw [hC] at hc
    obtain ⟨ys, n', hn', hy, hlen, hyl, hf⟩ := DataW.trod_struct he ht'
    obtain ⟨_, hcl, hat⟩ := World.cells?_some hc
    simp only [Prod.mk.injEq] at hy
    refine ⟨ys, n', hy.1, hy.2, hyl, fun j f hj => ?_⟩
    obtain ⟨ho, hk⟩ := hone_of hone j f hj
    have hjl : j < fs.size := (Array.getElem?_eq_some_iff.1 hj).1
    have hcell := hat j hjl
    have hv : cs'[j]? = some (cs'[j]'(by omega)) := List.getElem?_eq_getElem (by omega)
    have h1 := hf j f hj
    rw [ho, hk] at h1
    have hone' : (cs'.drop j).take 1 = [cs'[j]'(by omega)] := by
      rw [List.drop_eq_getElem_cons (by omega)]
      rfl
    rw [hone'] at h1
    have hys : ys[j]? = some (ys[j]'(by omega)) := List.getElem?_eq_getElem (by omega)
    refine ⟨_, _, ?_, hys, h1.trans hys⟩
    rw [← Go.Deep.add_add, hcell, hv]
end
theorem open_steps {H : Type} {enc : TypeId × Value → H} {W : World} {base : Nat} {v : Value} {d : DataW H} {p : List MemPlace}
    (hval : Value.okWide Tryd.prog W .any base 22 v) (h : DataW.Trod enc Tryd.prog W 0 (fun _ => true) true 22 v d p) : ∃ (A : Option Addr) (n c : Nat), v = .slice A n c ∧ StAt W A n := by
  obtain ⟨fuel, hf⟩ := h
  obtain ⟨A, n, c, rfl⟩ := okWide_slice Tryd.underlying22 hval
  rcases open_slice_fields Tryd.underlying22 Tryd.underlying35 (by kernel_rfl) (by kernel_rfl) hf with ⟨hcs, _⟩ | ⟨a, len, cap, m, D, Pl, hcs, _, hl, hm, hmm, _, hfs⟩
  · simp [Value.cells] at hcs
    obtain ⟨rfl, rfl, rfl⟩ := hcs
    exact ⟨none, 0, 0, rfl, fun k hk => by omega⟩
  · simp [Value.cells] at hcs
    obtain ⟨rfl, rfl, rfl⟩ := hcs
    refine ⟨_, _, _, rfl, fun k hk => ?_⟩
    have hmk : n ≤ m := by rw [hmm]; split <;> omega
    obtain ⟨ys, nn, _, _, _, hf2⟩ := hfs k (by omega)
    obtain ⟨u0, y0, hc0, _, ht0⟩ := hf2 0 _ rfl
    obtain ⟨u1, y1, hc1, _, ht1⟩ := hf2 1 _ rfl
    obtain ⟨u2, y2, hc2, _, ht2⟩ := hf2 2 _ rfl
    obtain ⟨u3, y3, hc3, _, ht3⟩ := hf2 3 _ rfl
    obtain ⟨u4, y4, hc4, _, ht4⟩ := hf2 4 _ rfl
    obtain ⟨u5, y5, hc5, _, ht5⟩ := hf2 5 _ rfl
    obtain ⟨x0, e0, _, w0⟩ := DataW.trod_int Tryd.underlying3 ht0
    obtain ⟨x1, e1, _, w1⟩ := DataW.trod_int Tryd.underlying3 ht1
    obtain ⟨x2, e2, _, w2⟩ := DataW.trod_int Tryd.underlying3 ht2
    obtain ⟨x3, e3, _, w3⟩ := DataW.trod_int Tryd.underlying3 ht3
    obtain ⟨x4, e4, _⟩ := DataW.trod_bool Tryd.underlying4 ht4
    obtain ⟨x5, e5, _, w5⟩ := DataW.trod_int Tryd.underlying33 ht5
    simp at e0 e1 e2 e3 e4 e5
    subst e0 e1 e2 e3 e4 e5
    have b5 := bounds_u32 w5
    obtain ⟨z5, rfl⟩ : ∃ z : Nat, x5 = z := ⟨x5.toNat, by omega⟩
    rw [← Go.Deep.add_add] at hc1 hc2 hc3 hc4 hc5
    exact ⟨_, x0, x1, x2, x3, x4, z5, rfl, hc0, hc1, hc2, hc3, hc4, hc5, bounds_i64 w2, bounds_i64 w3, by omega⟩
theorem gT : Tryd.prog.globalNamed "math/bits.deBruijn32tab" = some 0 := by kernel_rfl
theorem gTType : (Tryd.prog.globals[0]?).map (·.type) = some 107 := by kernel_rfl
def tabZ : List Int := [0, 1, 28, 2, 29, 14, 24, 3, 30, 22, 20, 15, 25, 17, 4, 8, 31, 27, 13, 23, 21, 19, 16, 7, 26, 12, 18, 6, 11, 5, 10, 9]
theorem tab_same : (List.range 32).all (fun i => tabZ.getD i 0 == ((Lib.deBruijn32tab.getD i 0 : Nat) : Int)) = true := by kernel_rfl
theorem laid_env {W : World} (h : laidMet Tryd.prog [("math/bits.deBruijn32tab", Lib.tabData .u8 tabZ)] W) : Env W := by
  have ht := Lib.tabIs_of_head gT gTType Tryd.underlying107 Tryd.underlying5 (by kernel_rfl) (by kernel_rfl) h
  have hc : ∀ i < 32, W.cell? ⟨0, i, none⟩ = some (.int .u8 (Lib.deBruijn32tab.getD i 0 : Nat)) := fun i hi => by
    have := ht.cell gT i (by show i < 32; exact hi)
    have e := List.all_eq_true.1 tab_same i (List.mem_range.2 hi)
    simp at e
    rw [this]
    simp [e]
  exact ⟨hc, World.block_lt_of_cell? W _ (hc 0 (by decide))⟩
theorem steps_law {W : World} (hE : Env W) {s : Int} (hr : -9223372036854775808 ≤ s ∧ s ≤ 9223372036854775807) {A : Option Addr} {nl c : Nat} (hst : StAt W A nl) (leave : Int) : Calls Tryd.prog 4 #[.int .i64 s, .slice A nl c, .int .i64 leave] W fun e w' => e = .returned (.bool true) ∧ Only [] W w' :=
  (steps_any hE hr hst leave).mono fun e w' ⟨he, hb⟩ => ⟨he, Only.ofBelow hb⟩
end Go.Proofs.YthlaoanfoimkfaaDoor
