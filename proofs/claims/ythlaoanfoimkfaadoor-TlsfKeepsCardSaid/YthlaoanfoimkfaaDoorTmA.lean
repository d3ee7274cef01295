/- Tlsf: stands, made, known. No condition but what each theorem says. -/
import Derived.Test.YthlaoanfoimkfaaDoorTm1
import Derived.Test.YthlaoanfoimkfaaDoorTk3
import Derived.Deep.RegionHeld3
namespace Go.Proofs.YthlaoanfoimkfaaDoor
open Go.RowKit Go.Shelf
set_option linter.unusedVariables false
set_option linter.all false
set_option maxRecDepth 100000
section
variable {w w' : World} {p h g gb cap mb r gB gM N base : Nat} {A : Option Addr} {c : Nat} {B B' B2 : List Bk} {L L' L2 : Nat → List Nat} {m m2 : Nat → Nat} {M M2 : List UInt8} {l : List Nat} {S : List Nat}
set_option maxHeartbeats 4000000 in
theorem stands_walk {J : World → Prop} {x y : Nat} {n d : Nat} {leave : Int} (J0 : J w) (DR : ∀ W, J W → J W.drew)
    (SL : ∀ W, J W → W.cell? ⟨p, 0, none⟩ = some (.pointer (some ⟨h, 0, none⟩)) ∧ W.cell? ⟨p, 1, none⟩ = some (.pointer (some ⟨r, 0, none⟩)) ∧ W.cell? ⟨r, 0, none⟩ = some (.slice (some ⟨gB, 0, none⟩) n d))
    (C18 : ∀ W, J W → Calls Tryd.prog 18 #[.pointer (some ⟨h, 0, none⟩)] W fun e w' => e = .returned (.int .i64 x) ∧ J w')
    (C39 : ∀ W, J W → Calls Tryd.prog 39 #[.pointer (some ⟨r, 0, none⟩)] W fun e w' => e = .returned (.int .i64 x) ∧ J w')
    (C40 : ∀ W, J W → Calls Tryd.prog 40 #[.pointer (some ⟨h, 0, none⟩)] W fun e w' => e = .returned (.int .i64 y) ∧ J w')
    (C41 : ∀ W, J W → Calls Tryd.prog 41 #[.pointer (some ⟨r, 0, none⟩)] W fun e w' => e = .returned (.int .i64 y) ∧ J w')
    (C17 : ∀ W, J W → Calls Tryd.prog 17 #[.pointer (some ⟨h, 0, none⟩), .slice (some ⟨gB, 0, none⟩) n d, .int .i64 leave] W fun e w' => e = .returned (.bool true) ∧ J w')
    (C21 : ∀ W, J W → Calls Tryd.prog 21 #[.pointer (some ⟨h, 0, none⟩)] W fun e w' => e = .returned (.bool true) ∧ J w') :
    Calls Tryd.prog 12 #[.pointer (some ⟨p, 0, none⟩), .int .i64 leave] w fun e w' => e = .returned (.bool true) ∧ J w' := by
  have C18 := Lib.hid C18
  have C39 := Lib.hid C39
  have C40 := Lib.hid C40
  have C41 := Lib.hid C41
  have C17 := Lib.hid C17
  have C21 := Lib.hid C21
  have SL := Lib.hid SL
  obtain ⟨p0, p1, r0⟩ := SL.out w J0
  have OD := Lib.hid (DR w J0)
  clear J0
  go_enter Tryd.func12, Tryd.ntmps12
  go_wp2
  go_region_held3 (fun W => W.cell? ⟨p, 0, none⟩ = some (.pointer (some ⟨h, 0, none⟩)) ∧ W.cell? ⟨p, 1, none⟩ = some (.pointer (some ⟨r, 0, none⟩)) ∧ W.cell? ⟨r, 0, none⟩ = some (.slice (some ⟨gB, 0, none⟩) n d)) (first | go_keep | exact kd)
    (first
    | (go_at_call 18; (with_reducible refine (C18.out _ OD.out).mono ?_); rintro e w2 ⟨rfl, j2⟩; have OD := Lib.hid j2; have kd := SL.out _ OD.out; clear j2)
    | (go_at_call 39; (with_reducible refine (C39.out _ OD.out).mono ?_); rintro e w2 ⟨rfl, j2⟩; have OD := Lib.hid j2; have kd := SL.out _ OD.out; clear j2)
    | (go_at_call 40; (with_reducible refine (C40.out _ OD.out).mono ?_); rintro e w2 ⟨rfl, j2⟩; have OD := Lib.hid j2; have kd := SL.out _ OD.out; clear j2)
    | (go_at_call 41; (with_reducible refine (C41.out _ OD.out).mono ?_); rintro e w2 ⟨rfl, j2⟩; have OD := Lib.hid j2; have kd := SL.out _ OD.out; clear j2)
    | (go_at_call 17; (with_reducible refine (C17.out _ OD.out).mono ?_); rintro e w2 ⟨rfl, j2⟩; have OD := Lib.hid j2; have kd := SL.out _ OD.out; clear j2)
    | (go_at_call 21; (with_reducible refine (C21.out _ OD.out).mono ?_); rintro e w2 ⟨rfl, j2⟩; have OD := Lib.hid j2; have kd := SL.out _ OD.out; clear j2))
  go_wp2
  go_ret
  exact ⟨by simp, OD.out⟩
variable [HAdd Unit Unit Nat]
theorem stands_any (P : Pr w base p h g gb cap mb r gB gM N A c B L m B L M l) (hE : Env w) (h0 : 0 < base) (leave : Int) :
    Calls Tryd.prog 12 #[.pointer (some ⟨p, 0, none⟩), .int .i64 leave] w fun e w' => e = .returned (.bool true) ∧ Below base w w' ∧ Pr w' base p h g gb cap mb r gB gM N A c B L m B L M l := by
  have hI := P.hp.inv
  have hs := hI.size
  have hbl := hI.blen
  have hk1 := kinds_le hI P.hp.all
  obtain ⟨d, hd1, hd2, hr0⟩ := P.dr.bcap
  obtain ⟨f1, f2, f3, f4, f5⟩ := P.far
  have hgr : r ∉ [g] := by simp; exact f2.2.1.symm
  refine stands_walk (J := fun W => Below base w W ∧ Only [g] w W ∧ Pr W base p h g gb cap mb r gB gM N A c B L m B L M l) (h := h) (r := r) (gB := gB) (x := leftN B) (y := (used B).length) (n := B.length) (d := d) ⟨Below.refl _ _, Only.refl _ _, P⟩ ?_ ?_ ?_ ?_ ?_ ?_ ?_ ?_ |>.mono fun e w' ⟨he, b, _, P'⟩ => ⟨he, b, P'⟩
  · rintro W ⟨b, o, P'⟩
    obtain ⟨P2, b2⟩ := P'.keep ((Only.refl [] W).drew)
    exact ⟨b.trans b2, o.drew, P2⟩
  · exact fun W ⟨b, o, P'⟩ => ⟨P'.slot0, P'.slot1, o.keep hr0 hgr⟩
  · rintro W ⟨b, o, P'⟩
    refine (left_any (hE.below b h0) P'.hp).mono ?_
    rintro e w' ⟨he, o2, H'⟩
    obtain ⟨P2, b2⟩ := P'.hread o2 H'
    exact ⟨he, b.trans b2, o.trans o2 (by simp), P2⟩
  · rintro W ⟨b, o, P'⟩
    exact (dleft_any P'.dr (by omega) hI.tile hs.2.1).mono fun e w' ⟨he, hw⟩ => ⟨he, hw ▸ ⟨b, o, P'⟩⟩
  · rintro W ⟨b, o, P'⟩
    exact (len_pieces P'.hp).mono fun e w' ⟨he, hw⟩ => ⟨he, hw ▸ ⟨b, o, P'⟩⟩
  · rintro W ⟨b, o, P'⟩
    exact (dlen_any P'.dr (by omega) hk1).mono fun e w' ⟨he, hw⟩ => ⟨he, hw ▸ ⟨b, o, P'⟩⟩
  · rintro W ⟨b, o, P'⟩
    refine (blocks_any P'.hp P'.dr.row ⟨f3.2.1.symm, f3.2.2.1.symm⟩ ⟨hd1, hd2⟩ leave).mono ?_
    rintro e w' ⟨he, o2, H'⟩
    obtain ⟨P2, b2⟩ := P'.hread o2 H'
    exact ⟨he, b.trans b2, o.trans o2 (by simp), P2⟩
  · rintro W ⟨b, o, P'⟩
    refine (check_any P'.hp).mono ?_
    rintro e w' ⟨he, o2, H'⟩
    obtain ⟨P2, b2⟩ := P'.hread o2 H'
    exact ⟨he, b.trans b2, o.trans o2 (by simp), P2⟩
end
end Go.Proofs.YthlaoanfoimkfaaDoor
namespace Go.Proofs.YthlaoanfoimkfaaDoor
open Go.RowKit Go.Shelf
set_option linter.unusedVariables false
set_option linter.all false
set_option maxRecDepth 100000
section
variable {w w' : World} {h g gb cap mb N : Nat}
theorem made_no {n : Int} (hn : ¬ (256 ≤ n ∧ n ≤ 65536 ∧ n % 8 = 0)) (hr : -9223372036854775808 ≤ n ∧ n ≤ 9223372036854775807) : Calls Tryd.prog 5 #[.int .i64 n] w fun e w' => e = .returned (.pointer none) ∧ w = w' := by
  have HN := Lib.hid (new_bad n w (by omega) hr.1 hr.2)
  clear hn
  go_enter Tryd.func5, Tryd.ntmps5
  go_wp2_with (first
    | (go_at_call 13; (with_reducible refine HN.out.mono ?_); rintro e w' ⟨rfl, rfl⟩)
    | (go_at_call 10; (with_reducible refine (num_any _ _).mono ?_); rintro e w' ⟨rfl, rfl⟩))
  go_ret
  exact ⟨by simp, rfl⟩
theorem made_yes (hN : 256 ≤ N ∧ N ≤ 65536 ∧ N % 8 = 0) : Calls Tryd.prog 5 #[.int .i64 N] w fun e w' => ∃ h g gb cap mb m, e = .returned (.pointer (some ⟨h, 0, none⟩)) ∧ Only [] w w' ∧
    Hp w' h g gb cap mb N [⟨112, N - 112, 1⟩] (insL (fun _ => []) (cls (N - 112)) 112) m ∧ w.heap.size ≤ h ∧ w.heap.size ≤ g ∧ w.heap.size ≤ gb ∧ w.heap.size ≤ mb := by
  have HN := Lib.hid (new_good N w hN.1 hN.2.1 hN.2.2)
  go_enter Tryd.func5, Tryd.ntmps5
  go_wp2_with (first
    | (go_at_call 13; (with_reducible refine HN.out.mono ?_); rintro e w1 ⟨rfl, o1, A1⟩)
    | (go_at_call 14; (with_reducible refine (new_heap A1 hN).mono ?_); rintro e w2 ⟨h, mb, m, rfl, o2, H2, hh, hmb⟩)
    | (go_at_call 10; (with_reducible refine (num_any _ _).mono ?_); rintro e w' ⟨rfl, rfl⟩))
  go_ret
  have := o1.size
  exact ⟨h, w.heap.size + 1, w.heap.size, _, mb, m, by simp, o1.trans o2 (fun x hx => .inr (by simp at hx; omega)), H2, by omega, by omega, by omega, by omega⟩
set_option maxHeartbeats 8000000 in
theorem known_walk {J0 J1 J2 J3 J4 J5 J6 J7 J8 J9 J10 J11 J12 J13 J14 J15 J16 J17 : Nat → World → Prop}
    (C0 : Calls Tryd.prog 5 #[.int .i64 256] w fun e w' => ∃ h : Nat, e = .returned (.pointer (some ⟨h, 0, none⟩)) ∧ J0 h w')
    (C1 : ∀ h W, J0 h W → Calls Tryd.prog 15 #[.pointer (some ⟨h, 0, none⟩), .int .i64 1] W fun e w' => e = .returned (.tuple #[.int .i64 120, .int .i64 0]) ∧ J1 h w')
    (C2 : ∀ h W, J1 h W → Calls Tryd.prog 15 #[.pointer (some ⟨h, 0, none⟩), .int .i64 8] W fun e w' => e = .returned (.tuple #[.int .i64 136, .int .i64 0]) ∧ J2 h w')
    (C3 : ∀ h W, J2 h W → Calls Tryd.prog 15 #[.pointer (some ⟨h, 0, none⟩), .int .i64 9] W fun e w' => e = .returned (.tuple #[.int .i64 152, .int .i64 0]) ∧ J3 h w')
    (C4 : ∀ h W, J3 h W → Calls Tryd.prog 15 #[.pointer (some ⟨h, 0, none⟩), .int .i64 0] W fun e w' => e = .returned (.tuple #[.int .i64 0, .int .i64 2]) ∧ J4 h w')
    (C5 : ∀ h W, J4 h W → Calls Tryd.prog 16 #[.pointer (some ⟨h, 0, none⟩), .int .i64 136] W fun e w' => e = .returned (.int .i64 0) ∧ J5 h w')
    (C6 : ∀ h W, J5 h W → Calls Tryd.prog 16 #[.pointer (some ⟨h, 0, none⟩), .int .i64 136] W fun e w' => e = .returned (.int .i64 6) ∧ J6 h w')
    (C7 : ∀ h W, J6 h W → Calls Tryd.prog 15 #[.pointer (some ⟨h, 0, none⟩), .int .i64 8] W fun e w' => e = .returned (.tuple #[.int .i64 136, .int .i64 0]) ∧ J7 h w')
    (C8 : ∀ h W, J7 h W → Calls Tryd.prog 17 #[.pointer (some ⟨h, 0, none⟩), .slice (some ⟨W.heap.size, 0, none⟩) 4 4, .int .i64 0] (W.alloc (.cells #[.int .i64 112, .int .i64 16, .bool false, .int .i64 128, .int .i64 16, .bool false, .int .i64 144, .int .i64 24, .bool false, .int .i64 168, .int .i64 88, .bool true] 42)) fun e w' => e = .returned (.bool true) ∧ J8 h w')
    (C9 : ∀ h W, J8 h W → Calls Tryd.prog 15 #[.pointer (some ⟨h, 0, none⟩), .int .i64 80] W fun e w' => e = .returned (.tuple #[.int .i64 0, .int .i64 5]) ∧ J9 h w')
    (C10 : ∀ h W, J9 h W → Calls Tryd.prog 15 #[.pointer (some ⟨h, 0, none⟩), .int .i64 56] W fun e w' => e = .returned (.tuple #[.int .i64 176, .int .i64 0]) ∧ J10 h w')
    (C11 : ∀ h W, J10 h W → Calls Tryd.prog 18 #[.pointer (some ⟨h, 0, none⟩)] W fun e w' => e = .returned (.int .i64 16) ∧ J11 h w')
    (C12 : ∀ h W, J11 h W → Calls Tryd.prog 16 #[.pointer (some ⟨h, 0, none⟩), .int .i64 120] W fun e w' => e = .returned (.int .i64 0) ∧ J12 h w')
    (C13 : ∀ h W, J12 h W → Calls Tryd.prog 16 #[.pointer (some ⟨h, 0, none⟩), .int .i64 136] W fun e w' => e = .returned (.int .i64 0) ∧ J13 h w')
    (C14 : ∀ h W, J13 h W → Calls Tryd.prog 15 #[.pointer (some ⟨h, 0, none⟩), .int .i64 24] W fun e w' => e = .returned (.tuple #[.int .i64 120, .int .i64 0]) ∧ J14 h w')
    (C15 : ∀ h W, J14 h W → Calls Tryd.prog 19 #[.pointer (some ⟨h, 0, none⟩), .int .i64 152, .int .i64 8] W fun e w' => e = .returned (.tuple #[.int .i64 152, .int .i64 0]) ∧ J15 h w')
    (C16 : ∀ h W, J15 h W → Calls Tryd.prog 20 #[.pointer (some ⟨h, 0, none⟩), .int .i64 152] W fun e w' => e = .returned (.tuple #[.int .i64 16, .int .i64 0]) ∧ J16 h w')
    (C17 : ∀ h W, J16 h W → Calls Tryd.prog 21 #[.pointer (some ⟨h, 0, none⟩)] W fun e w' => e = .returned (.bool true) ∧ J17 h w')
    : Calls Tryd.prog 6 #[] w fun e w' => e = .returned (.bool true) ∧ ∃ h, J17 h w' := by
  have C0 := Lib.hid C0
  have C1 := Lib.hid C1
  have C2 := Lib.hid C2
  have C3 := Lib.hid C3
  have C4 := Lib.hid C4
  have C5 := Lib.hid C5
  have C6 := Lib.hid C6
  have C7 := Lib.hid C7
  have C8 := Lib.hid C8
  have C9 := Lib.hid C9
  have C10 := Lib.hid C10
  have C11 := Lib.hid C11
  have C12 := Lib.hid C12
  have C13 := Lib.hid C13
  have C14 := Lib.hid C14
  have C15 := Lib.hid C15
  have C16 := Lib.hid C16
  have C17 := Lib.hid C17
  go_enter Tryd.func6, Tryd.ntmps6
  go_wp2_with (first
    | (go_at_call 5; (with_reducible refine C0.out.mono ?_); rintro e w1 ⟨h, rfl, j⟩; have G0 := Lib.hid j; clear j)
    | (go_at_call 10; (with_reducible refine (num_any _ _).mono ?_); rintro e w' ⟨rfl, rfl⟩)
    | (go_at_call 21; (with_reducible refine (C17.out _ _ G16.out).mono ?_); rintro e w18 ⟨rfl, j⟩; have G17 := Lib.hid j; clear j G16)
    | (go_at_call 20; (with_reducible refine (C16.out _ _ G15.out).mono ?_); rintro e w17 ⟨rfl, j⟩; have G16 := Lib.hid j; clear j G15)
    | (go_at_call 19; (with_reducible refine (C15.out _ _ G14.out).mono ?_); rintro e w16 ⟨rfl, j⟩; have G15 := Lib.hid j; clear j G14)
    | (go_at_call 15; (with_reducible refine (C14.out _ _ G13.out).mono ?_); rintro e w15 ⟨rfl, j⟩; have G14 := Lib.hid j; clear j G13)
    | (go_at_call 16; (with_reducible refine (C13.out _ _ G12.out).mono ?_); rintro e w14 ⟨rfl, j⟩; have G13 := Lib.hid j; clear j G12)
    | (go_at_call 16; (with_reducible refine (C12.out _ _ G11.out).mono ?_); rintro e w13 ⟨rfl, j⟩; have G12 := Lib.hid j; clear j G11)
    | (go_at_call 18; (with_reducible refine (C11.out _ _ G10.out).mono ?_); rintro e w12 ⟨rfl, j⟩; have G11 := Lib.hid j; clear j G10)
    | (go_at_call 15; (with_reducible refine (C10.out _ _ G9.out).mono ?_); rintro e w11 ⟨rfl, j⟩; have G10 := Lib.hid j; clear j G9)
    | (go_at_call 15; (with_reducible refine (C9.out _ _ G8.out).mono ?_); rintro e w10 ⟨rfl, j⟩; have G9 := Lib.hid j; clear j G8)
    | (go_at_call 17; (with_reducible refine (C8.out _ _ G7.out).mono ?_); rintro e w9 ⟨rfl, j⟩; have G8 := Lib.hid j; clear j G7)
    | (go_at_call 15; (with_reducible refine (C7.out _ _ G6.out).mono ?_); rintro e w8 ⟨rfl, j⟩; have G7 := Lib.hid j; clear j G6)
    | (go_at_call 16; (with_reducible refine (C6.out _ _ G5.out).mono ?_); rintro e w7 ⟨rfl, j⟩; have G6 := Lib.hid j; clear j G5)
    | (go_at_call 16; (with_reducible refine (C5.out _ _ G4.out).mono ?_); rintro e w6 ⟨rfl, j⟩; have G5 := Lib.hid j; clear j G4)
    | (go_at_call 15; (with_reducible refine (C4.out _ _ G3.out).mono ?_); rintro e w5 ⟨rfl, j⟩; have G4 := Lib.hid j; clear j G3)
    | (go_at_call 15; (with_reducible refine (C3.out _ _ G2.out).mono ?_); rintro e w4 ⟨rfl, j⟩; have G3 := Lib.hid j; clear j G2)
    | (go_at_call 15; (with_reducible refine (C2.out _ _ G1.out).mono ?_); rintro e w3 ⟨rfl, j⟩; have G2 := Lib.hid j; clear j G1)
    | (go_at_call 15; (with_reducible refine (C1.out _ _ G0.out).mono ?_); rintro e w2 ⟨rfl, j⟩; have G1 := Lib.hid j; clear j G0))
  go_ret
  exact ⟨by simp, _, G17.out⟩
end
end Go.Proofs.YthlaoanfoimkfaaDoor
namespace Go.Proofs.YthlaoanfoimkfaaDoor
open Go.RowKit
set_option linter.unusedVariables false
set_option linter.all false
set_option maxRecDepth 100000
theorem firstC_of {L : Nat → List Nat} {c0 c : Nat} (h : (decide (c0 ≤ c) && !(L c).isEmpty && (List.range c).all (fun j => decide (j < c0) || (L j).isEmpty)) = true) : FirstC L c0 c := by
  simp only [Bool.and_eq_true, decide_eq_true_eq, Bool.not_eq_true', List.isEmpty_eq_false_iff, List.all_eq_true, List.mem_range, Bool.or_eq_true, List.isEmpty_iff] at h
  exact ⟨h.1.1, h.1.2, fun j h1 h2 => (h.2 j h2).resolve_left (by omega)⟩
theorem noC_of {N : Nat} {m : Nat → Nat} {B : List Bk} {L : Nat → List Nat} {c0 : Nat} (hI : Inv N m B L) (h : (List.range 24).all (fun j => decide (j < c0) || (L j).isEmpty) = true) : ∀ c, c0 ≤ c → L c = [] := fun c hc => by
  by_cases h24 : c < 24
  · simp only [List.all_eq_true, List.mem_range, Bool.or_eq_true, decide_eq_true_eq, List.isEmpty_iff] at h
    exact (h c h24).resolve_left (by omega)
  · exact hI.high c (by omega)
/-- The heap of known, over nothing that was there. -/
def KS (w0 : World) (h g gb cap mb : Nat) (B : List Bk) (L : Nat → List Nat) (W : World) : Prop := Only [] w0 W ∧ (w0.heap.size ≤ h ∧ w0.heap.size ≤ g ∧ w0.heap.size ≤ gb ∧ w0.heap.size ≤ mb) ∧ ∃ m, Hp W h g gb cap mb 256 B L m
section
variable {w w0 W : World} {h g gb cap mb : Nat} {B A C B' : List Bk} {b : Bk} {L L' : Nat → List Nat}
theorem KS.up {W' : World} {m : Nat → Nat} (K : KS w0 h g gb cap mb B L W) (o : Only [g, gb, mb] W W') (H : Hp W' h g gb cap mb 256 B' L' m) : KS w0 h g gb cap mb B' L' W' := by
  obtain ⟨o1, a, _⟩ := K
  exact ⟨o1.trans o (fun x hx => .inr (by simp at hx; rcases hx with rfl | rfl | rfl <;> omega)), a, m, H⟩
theorem KS.alloc (K : KS w0 h g gb cap mb (A ++ b :: C) L W) (hE : Env w0) {n c : Nat} (hk : b.k = 1) (h1 : 1 ≤ n) (h2 : n ≤ 65536) (hc : FirstC L (floor (need n)) c) (hd : (L c).headD 0 = b.at') (e1 : (cutS false A b.at' b.size (need n) C (rmL L (cls b.size) b.at')).1 = B') (e2 : (cutS false A b.at' b.size (need n) C (rmL L (cls b.size) b.at')).2 = L') :
    Calls Tryd.prog 15 #[.pointer (some ⟨h, 0, none⟩), .int .i64 n] W fun e w' => e = .returned (.tuple #[.int .i64 (b.at' + 8 : Nat), .int .i64 0]) ∧ KS w0 h g gb cap mb B' L' w' := by
  obtain ⟨o1, a, m, H⟩ := K
  refine (alloc_yes (hE.only o1 (by simp)) (by have := hE.one; omega) H hk h1 h2 hc hd).mono ?_
  rintro e w' ⟨he, o, m', H', _⟩
  rw [e1, e2] at H'
  exact ⟨he, KS.up ⟨o1, a, m, H⟩ o H'⟩
theorem KS.full (K : KS w0 h g gb cap mb B L W) {n : Nat} (h1 : 1 ≤ n) (h2 : n ≤ 65536) (hc : (List.range 24).all (fun j => decide (j < floor (need n)) || (L j).isEmpty) = true) :
    Calls Tryd.prog 15 #[.pointer (some ⟨h, 0, none⟩), .int .i64 n] W fun e w' => e = .returned (.tuple #[.int .i64 0, .int .i64 5]) ∧ KS w0 h g gb cap mb B L w' := by
  obtain ⟨o1, a, m, H⟩ := K
  refine (alloc_no H h1 h2 (noC_of H.inv hc)).mono ?_
  rintro e w' ⟨he, o, H'⟩
  exact ⟨he, KS.up ⟨o1, a, m, H⟩ (o.mono (by simp)) H'⟩
theorem KS.bad (K : KS w0 h g gb cap mb B L W) {n : Int} (hn : ¬ (1 ≤ n ∧ n ≤ 65536)) :
    Calls Tryd.prog 15 #[.pointer (some ⟨h, 0, none⟩), .int .i64 n] W fun e w' => e = .returned (.tuple #[.int .i64 0, .int .i64 2]) ∧ KS w0 h g gb cap mb B L w' := by
  obtain ⟨o1, a, m, H⟩ := K
  exact (alloc_bad H hn).mono fun e w' ⟨he, hw⟩ => ⟨he, hw ▸ ⟨o1, a, m, H⟩⟩
theorem KS.free (K : KS w0 h g gb cap mb (A ++ b :: C) L W) (hk : b.k = 0) (e1 : (freeS A b.at' b.size C L).1 = B') (e2 : (freeS A b.at' b.size C L).2 = L') :
    Calls Tryd.prog 16 #[.pointer (some ⟨h, 0, none⟩), .int .i64 (b.at' + 8 : Nat)] W fun e w' => e = .returned (.int .i64 0) ∧ KS w0 h g gb cap mb B' L' w' := by
  obtain ⟨o1, a, m, H⟩ := K
  refine (free_yes H hk).mono ?_
  rintro e w' ⟨he, o, m', H', _⟩
  rw [e1, e2] at H'
  exact ⟨he, KS.up ⟨o1, a, m, H⟩ o H'⟩
theorem KS.freeNo (K : KS w0 h g gb cap mb B L W) {x : Nat} (hx : (used B).all (fun y => decide (x ≠ y)) = true) (hb : x < 100000) :
    Calls Tryd.prog 16 #[.pointer (some ⟨h, 0, none⟩), .int .i64 x] W fun e w' => e = .returned (.int .i64 6) ∧ KS w0 h g gb cap mb B L w' := by
  obtain ⟨o1, a, m, H⟩ := K
  exact (free_no H (fun y hy e => by
    have := List.all_eq_true.1 hx y hy
    simp at this; omega) (by omega)).mono fun e w' ⟨he, hw⟩ => ⟨he, hw ▸ ⟨o1, a, m, H⟩⟩
end
def kB0 : List Bk := [⟨112, 144, 1⟩]
def kL0 : Nat → List Nat := insL (fun _ => []) (cls 144) 112
def kB1 : List Bk := [⟨112, 16, 0⟩, ⟨128, 128, 1⟩]
def kL1 : Nat → List Nat := (cutS false [] 112 144 (need 1) [] (rmL kL0 (cls 144) 112)).2
def kB2 : List Bk := [⟨112, 16, 0⟩, ⟨128, 16, 0⟩, ⟨144, 112, 1⟩]
def kL2 : Nat → List Nat := (cutS false [⟨112, 16, 0⟩] 128 128 (need 8) [] (rmL kL1 (cls 128) 128)).2
def kB3 : List Bk := [⟨112, 16, 0⟩, ⟨128, 16, 0⟩, ⟨144, 24, 0⟩, ⟨168, 88, 1⟩]
def kL3 : Nat → List Nat := (cutS false [⟨112, 16, 0⟩, ⟨128, 16, 0⟩] 144 112 (need 9) [] (rmL kL2 (cls 112) 144)).2
def kB5 : List Bk := [⟨112, 16, 0⟩, ⟨128, 16, 1⟩, ⟨144, 24, 0⟩, ⟨168, 88, 1⟩]
def kL5 : Nat → List Nat := (freeS [⟨112, 16, 0⟩] 128 16 [⟨144, 24, 0⟩, ⟨168, 88, 1⟩] kL3).2
def kL7 : Nat → List Nat := (cutS false [⟨112, 16, 0⟩] 128 16 (need 8) [⟨144, 24, 0⟩, ⟨168, 88, 1⟩] (rmL kL5 (cls 16) 128)).2
def kB10 : List Bk := [⟨112, 16, 0⟩, ⟨128, 16, 0⟩, ⟨144, 24, 0⟩, ⟨168, 64, 0⟩, ⟨232, 24, 1⟩]
def kL10 : Nat → List Nat := (cutS false [⟨112, 16, 0⟩, ⟨128, 16, 0⟩, ⟨144, 24, 0⟩] 168 88 (need 56) [] (rmL kL7 (cls 88) 168)).2
def kB12 : List Bk := [⟨112, 16, 1⟩, ⟨128, 16, 0⟩, ⟨144, 24, 0⟩, ⟨168, 64, 0⟩, ⟨232, 24, 1⟩]
def kL12 : Nat → List Nat := (freeS [] 112 16 [⟨128, 16, 0⟩, ⟨144, 24, 0⟩, ⟨168, 64, 0⟩, ⟨232, 24, 1⟩] kL10).2
def kB13 : List Bk := [⟨112, 32, 1⟩, ⟨144, 24, 0⟩, ⟨168, 64, 0⟩, ⟨232, 24, 1⟩]
def kL13 : Nat → List Nat := (freeS [⟨112, 16, 1⟩] 128 16 [⟨144, 24, 0⟩, ⟨168, 64, 0⟩, ⟨232, 24, 1⟩] kL12).2
def kB14 : List Bk := [⟨112, 32, 0⟩, ⟨144, 24, 0⟩, ⟨168, 64, 0⟩, ⟨232, 24, 1⟩]
def kL14 : Nat → List Nat := (cutS false [] 112 32 (need 24) [⟨144, 24, 0⟩, ⟨168, 64, 0⟩, ⟨232, 24, 1⟩] (rmL kL13 (cls 32) 112)).2
def kL15 : Nat → List Nat := (cutS true [⟨112, 32, 0⟩] 144 24 (need 8) [⟨168, 64, 0⟩, ⟨232, 24, 1⟩] kL14).2
section
variable {w : World}
theorem known_any (hE : Env w) : Calls Tryd.prog 6 #[] w fun e w' => e = .returned (.bool true) ∧ Only [] w w' := by
  have key : ∀ (B : List Bk) (L : Nat → List Nat), (∀ h W, (∃ g gb cap mb, KS w h g gb cap mb B L W) → True) := fun _ _ _ _ _ => trivial
  let S := fun (B : List Bk) (L : Nat → List Nat) (h : Nat) (W : World) => ∃ g gb cap mb, KS w h g gb cap mb B L W
  refine (known_walk (J0 := S kB0 kL0) (J1 := S kB1 kL1) (J2 := S kB2 kL2) (J3 := S kB3 kL3) (J4 := S kB3 kL3) (J5 := S kB5 kL5) (J6 := S kB5 kL5) (J7 := S kB3 kL7) (J8 := S kB3 kL7) (J9 := S kB3 kL7) (J10 := S kB10 kL10) (J11 := S kB10 kL10)
    (J12 := S kB12 kL12) (J13 := S kB13 kL13) (J14 := S kB14 kL14) (J15 := S kB14 kL15) (J16 := S kB14 kL15) (J17 := S kB14 kL15) ?_ ?_ ?_ ?_ ?_ ?_ ?_ ?_ ?_ ?_ ?_ ?_ ?_ ?_ ?_ ?_ ?_ ?_).mono ?_
  · refine (made_yes (N := 256) (by decide)).mono ?_
    rintro e w' ⟨h, g, gb, cap, mb, m, he, o, H, a1, a2, a3, a4⟩
    exact ⟨h, he, g, gb, cap, mb, o, ⟨a1, a2, a3, a4⟩, m, H⟩
  · rintro h W ⟨g, gb, cap, mb, K⟩
    exact (KS.alloc (A := []) (b := ⟨112, 144, 1⟩) (C := []) (n := 1) (c := 6) K hE rfl (by decide) (by decide) (firstC_of (by kernel_rfl)) (by kernel_rfl) (B' := kB1) (L' := kL1) (by kernel_rfl) (by kernel_rfl)).mono fun e w' ⟨he, K'⟩ => ⟨he, g, gb, cap, mb, K'⟩
  · rintro h W ⟨g, gb, cap, mb, K⟩
    exact (KS.alloc (A := [⟨112, 16, 0⟩]) (b := ⟨128, 128, 1⟩) (C := []) (n := 8) (c := 6) K hE rfl (by decide) (by decide) (firstC_of (by kernel_rfl)) (by kernel_rfl) (B' := kB2) (L' := kL2) (by kernel_rfl) (by kernel_rfl)).mono fun e w' ⟨he, K'⟩ => ⟨he, g, gb, cap, mb, K'⟩
  · rintro h W ⟨g, gb, cap, mb, K⟩
    exact (KS.alloc (A := [⟨112, 16, 0⟩, ⟨128, 16, 0⟩]) (b := ⟨144, 112, 1⟩) (C := []) (n := 9) (c := 5) K hE rfl (by decide) (by decide) (firstC_of (by kernel_rfl)) (by kernel_rfl) (B' := kB3) (L' := kL3) (by kernel_rfl) (by kernel_rfl)).mono fun e w' ⟨he, K'⟩ => ⟨he, g, gb, cap, mb, K'⟩
  · rintro h W ⟨g, gb, cap, mb, K⟩
    exact (K.bad (n := 0) (by decide)).mono fun e w' ⟨he, K'⟩ => ⟨he, g, gb, cap, mb, K'⟩
  · rintro h W ⟨g, gb, cap, mb, K⟩
    exact (KS.free (A := [⟨112, 16, 0⟩]) (b := ⟨128, 16, 0⟩) (C := [⟨144, 24, 0⟩, ⟨168, 88, 1⟩]) K rfl (B' := kB5) (L' := kL5) (by kernel_rfl) (by kernel_rfl)).mono fun e w' ⟨he, K'⟩ => ⟨he, g, gb, cap, mb, K'⟩
  · rintro h W ⟨g, gb, cap, mb, K⟩
    exact (K.freeNo (x := 136) (by kernel_rfl) (by decide)).mono fun e w' ⟨he, K'⟩ => ⟨he, g, gb, cap, mb, K'⟩
  · rintro h W ⟨g, gb, cap, mb, K⟩
    exact (KS.alloc (A := [⟨112, 16, 0⟩]) (b := ⟨128, 16, 1⟩) (C := [⟨144, 24, 0⟩, ⟨168, 88, 1⟩]) (n := 8) (c := 0) K hE rfl (by decide) (by decide) (firstC_of (by kernel_rfl)) (by kernel_rfl) (B' := kB3) (L' := kL7) (by kernel_rfl) (by kernel_rfl)).mono fun e w' ⟨he, K'⟩ => ⟨he, g, gb, cap, mb, K'⟩
  · rintro h W ⟨g, gb, cap, mb, o1, a, m, H⟩
    have oA := (Only.refl [] W).alloc (.cells #[.int .i64 112, .int .i64 16, .bool false, .int .i64 128, .int .i64 16, .bool false, .int .i64 144, .int .i64 24, .bool false, .int .i64 168, .int .i64 88, .bool true] 42)
    have bq := Blk.new W 42 #[.int .i64 112, .int .i64 16, .bool false, .int .i64 128, .int .i64 16, .bool false, .int .i64 144, .int .i64 24, .bool false, .int .i64 168, .int .i64 88, .bool true]
    have hl := H.lt
    refine (blocks_any (H.only0 oA) (q := W.heap.size) (c := 4) ⟨_, bq, fun j b hj => ?_⟩ (by omega) (by decide) 0).mono ?_
    · rcases j with _ | _ | _ | _ | j
      · cases hj; exact ⟨rfl, rfl, rfl⟩
      · cases hj; exact ⟨rfl, rfl, rfl⟩
      · cases hj; exact ⟨rfl, rfl, rfl⟩
      · cases hj; exact ⟨rfl, rfl, rfl⟩
      · cases hj
    · rintro e w' ⟨he, o2, H'⟩
      exact ⟨he, g, gb, cap, mb, KS.up ⟨o1, a, m, H⟩ ((oA.mono (by simp)).trans o2 (by simp)) H'⟩
  · rintro h W ⟨g, gb, cap, mb, K⟩
    exact (K.full (n := 80) (by decide) (by decide) (by kernel_rfl)).mono fun e w' ⟨he, K'⟩ => ⟨he, g, gb, cap, mb, K'⟩
  · rintro h W ⟨g, gb, cap, mb, K⟩
    exact (KS.alloc (A := [⟨112, 16, 0⟩, ⟨128, 16, 0⟩, ⟨144, 24, 0⟩]) (b := ⟨168, 88, 1⟩) (C := []) (n := 56) (c := 4) K hE rfl (by decide) (by decide) (firstC_of (by kernel_rfl)) (by kernel_rfl) (B' := kB10) (L' := kL10) (by kernel_rfl) (by kernel_rfl)).mono fun e w' ⟨he, K'⟩ => ⟨he, g, gb, cap, mb, K'⟩
  · rintro h W ⟨g, gb, cap, mb, o1, a, m, H⟩
    refine (left_any (hE.only o1 (by simp)) H).mono ?_
    rintro e w' ⟨he, o2, H'⟩
    exact ⟨he, g, gb, cap, mb, KS.up ⟨o1, a, m, H⟩ (o2.mono (by simp)) H'⟩
  · rintro h W ⟨g, gb, cap, mb, K⟩
    exact (KS.free (A := []) (b := ⟨112, 16, 0⟩) (C := [⟨128, 16, 0⟩, ⟨144, 24, 0⟩, ⟨168, 64, 0⟩, ⟨232, 24, 1⟩]) K rfl (B' := kB12) (L' := kL12) (by kernel_rfl) (by kernel_rfl)).mono fun e w' ⟨he, K'⟩ => ⟨he, g, gb, cap, mb, K'⟩
  · rintro h W ⟨g, gb, cap, mb, K⟩
    exact (KS.free (A := [⟨112, 16, 1⟩]) (b := ⟨128, 16, 0⟩) (C := [⟨144, 24, 0⟩, ⟨168, 64, 0⟩, ⟨232, 24, 1⟩]) K rfl (B' := kB13) (L' := kL13) (by kernel_rfl) (by kernel_rfl)).mono fun e w' ⟨he, K'⟩ => ⟨he, g, gb, cap, mb, K'⟩
  · rintro h W ⟨g, gb, cap, mb, K⟩
    exact (KS.alloc (A := []) (b := ⟨112, 32, 1⟩) (C := [⟨144, 24, 0⟩, ⟨168, 64, 0⟩, ⟨232, 24, 1⟩]) (n := 24) (c := 2) K hE rfl (by decide) (by decide) (firstC_of (by kernel_rfl)) (by kernel_rfl) (B' := kB14) (L' := kL14) (by kernel_rfl) (by kernel_rfl)).mono fun e w' ⟨he, K'⟩ => ⟨he, g, gb, cap, mb, K'⟩
  · rintro h W ⟨g, gb, cap, mb, o1, a, m, H⟩
    refine (realloc_same (A := [⟨112, 32, 0⟩]) (b := ⟨144, 24, 0⟩) (C := [⟨168, 64, 0⟩, ⟨232, 24, 1⟩]) H rfl (n := 8) (by decide) (by decide) (by decide) (by decide)).mono ?_
    rintro e w' ⟨he, o2, m', H', _⟩
    exact ⟨he, g, gb, cap, mb, KS.up ⟨o1, a, m, H⟩ o2 H'⟩
  · rintro h W ⟨g, gb, cap, mb, o1, a, m, H⟩
    refine (size_yes (A := [⟨112, 32, 0⟩]) (b := ⟨144, 24, 0⟩) (C := [⟨168, 64, 0⟩, ⟨232, 24, 1⟩]) H rfl).mono ?_
    rintro e w' ⟨he, o2, H'⟩
    exact ⟨he, g, gb, cap, mb, KS.up ⟨o1, a, m, H⟩ (o2.mono (by simp)) H'⟩
  · rintro h W ⟨g, gb, cap, mb, o1, a, m, H⟩
    refine (check_any H).mono ?_
    rintro e w' ⟨he, o2, H'⟩
    exact ⟨he, g, gb, cap, mb, KS.up ⟨o1, a, m, H⟩ (o2.mono (by simp)) H'⟩
  · rintro e w' ⟨he, h, g, gb, cap, mb, K⟩
    exact ⟨he, K.1⟩
end
end Go.Proofs.YthlaoanfoimkfaaDoor
