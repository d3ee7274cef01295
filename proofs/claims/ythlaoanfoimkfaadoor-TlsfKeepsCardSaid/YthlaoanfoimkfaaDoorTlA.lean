/- Tlsf: both heaps beside each other; offset, got, fresh. No condition but what each theorem says. -/
import Derived.Test.YthlaoanfoimkfaaDoorTdH
import Derived.Test.YthlaoanfoimkfaaDoorTkA
namespace Go.Proofs.YthlaoanfoimkfaaDoor
open Go.RowKit
set_option linter.unusedVariables false
set_option linter.all false
set_option maxRecDepth 100000
theorem Only.to {S : List Nat} {n : Nat} {w w' : World} (o : Only S w w') (h : ∀ k ∈ S, n ≤ k) (hn : n ≤ w.heap.size) : Below n w w' :=
  ⟨o.os, o.tape, o.output, o.size, fun i hi => o.block i (by omega) (fun hm => by have := h i hm; omega)⟩
/-- append(s, t) at a slice of one's own; which block it lies in. -/
theorem app_own (w : World) (B : Nat) (A0 : Option Addr) (c0 : Nat) (l : List Nat) (q : Nat) (t : Nat) (n0 : Nat) (hn0 : l.length = n0) (hrow : w.ownsRow B 3 1 (.slice A0 n0 c0) n0 (NV l)) (hq : w.cell? ⟨q, 0, none⟩ = some (.int .i64 (t : Int)))
    (hn : l.length ≤ 90000) (hB : B ≤ w.heap.size) :
    ∃ (A1 : Option Addr) (c1 : Nat) (w2 : World), (AppH #[29, 29] 29 #[.slice A0 n0 c0, .slice (some ⟨q, 0, none⟩) 1 1]).run Tryd.prog w = .ok (.slice A1 (n0 + 1) c1) w2 ∧ w2.ownsRow B 3 1 (.slice A1 (n0 + 1) c1) (n0 + 1) (NV (l ++ [t])) ∧ Only (blkOf A0) w w2 ∧
      (blkOf A1 = blkOf A0 ∨ blkOf A1 = [w.heap.size]) := by
  obtain ⟨i0, hi, hz0, hz1, hz2⟩ := info_parts int3_info
  have hcap := own_cap hrow
  subst hn0
  have hc : ∀ j u, (NV [t])[j]? = some u → w.cell? ((⟨q, 0, none⟩ : Addr).add j) = some u := by
    intro j u hj
    simp only [NV, List.getElem?_map, Option.map_eq_some_iff] at hj
    obtain ⟨t', ht, rfl⟩ := hj
    rcases j with _ | j
    · simp at ht
      subst ht
      rw [add_mk, Nat.zero_add]
      exact hq
    · simp at ht
  obtain ⟨v', w', hrun, h2, h3, h4, h5⟩ := run_append_own_at (P := Tryd.prog) w B 29 29 3 i0 (.int .i64 0) 1 8 Tryd.underlying29 hi hz0 hz1 hz2 rfl (by omega) (.slice A0 l.length c0) l.length (NV l) hrow ⟨q, 0, none⟩ 1 1 (NV [t]) (by rw [NV_len]; simp) hc (NV_one [t]) (by unfold maxLen; omega) (by omega) hB
  rw [← NV_append] at h2
  obtain ⟨A1, c1, rfl⟩ : ∃ A1 c1, v' = .slice A1 (l.length + 1) c1 := by
    rcases h2.2 with ⟨hv, hn⟩ | ⟨g, cap, cur, hv, _⟩
    · rw [hn]
      exact ⟨none, 0, hv⟩
    · exact ⟨_, _, hv⟩
  have hbk : ∀ A : Option Addr, ∀ n c, (Value.slice A n c).ownBlock = (blkOf A).head? := fun A n c => by cases A <;> rfl
  have hbl : ∀ A : Option Addr, ∀ x, (blkOf A).head? = some x → blkOf A = [x] := fun A x h => by
    cases A with
    | none => cases h
    | some a => simp [blkOf] at h; simp [blkOf, h]
  refine ⟨A1, c1, w', hrun, h2, (Only.refl _ w).grown h3 (fun k hk => .inl ?_), ?_⟩
  · rw [hbk] at hk
    rw [hbl A0 k hk]; simp
  · rw [hbk, hbk] at h5
    rcases h5 with h5 | h5
    · left
      cases A1 <;> cases A0 <;> simp_all [blkOf]
    · exact .inr (hbl _ _ h5)
section
variable {w w' : World} {p h g gb cap mb r gB gM N base : Nat} {A : Option Addr} {c : Nat} {B B' B2 : List Bk} {L L' L2 : Nat → List Nat} {m m2 : Nat → Nat} {M M2 : List UInt8} {l : List Nat} {S : List Nat}
theorem Me.blks (H : Me w h g gb cap mb N m) : (∃ cs, Blk w g 78 cs) ∧ ∃ cs, Blk w gb 5 cs := by
  obtain ⟨bs, c, hA, _, _⟩ := H.mem
  refine ⟨⟨_, hA.hdr⟩, ?_⟩
  obtain ⟨cur, hb, _⟩ := own_block hA.row
  exact ⟨_, hb⟩
variable [HAdd Unit Unit Nat]
theorem Hp.noRow (H : Hp w h g gb cap mb N B L m) : NoRow w [g, gb, mb] := by
  obtain ⟨⟨cs, hg⟩, cs2, hgb⟩ := H.me.blks
  obtain ⟨U, hP, hU⟩ := H.pc
  intro k hk _ _ cs' h'
  simp only [List.mem_cons, List.not_mem_nil, or_false] at hk
  rcases hk with rfl | rfl | rfl
  · exact Blk.ne_ h' hg (by decide) rfl
  · exact Blk.ne_ h' hgb (by decide) rfl
  · exact hP.ne h' rfl
theorem Hp.apart (H : Hp w h g gb cap mb N B L m) {k : Nat} {t : TypeId} {cs : Array Value} (hk : Blk w k t cs) (ht : t ≠ 76 ∧ t ≠ 78 ∧ t ≠ 5) : h ≠ k ∧ g ≠ k ∧ gb ≠ k ∧ mb ≠ k := by
  obtain ⟨⟨cs1, hg⟩, cs2, hgb⟩ := H.me.blks
  obtain ⟨U, hP, hU⟩ := H.pc
  exact ⟨fun e => Blk.ne_ hk H.me.hdr ht.1 e.symm, fun e => Blk.ne_ hk hg ht.2.1 e.symm, fun e => Blk.ne_ hk hgb ht.2.2 e.symm, hP.ne hk⟩
theorem Hp.apart5 (H : Hp w h g gb cap mb N B L m) {k : Nat} {cs : Array Value} (hk : Blk w k 5 cs) : h ≠ k ∧ g ≠ k ∧ mb ≠ k := by
  obtain ⟨⟨cs1, hg⟩, cs2, hgb⟩ := H.me.blks
  obtain ⟨U, hP, hU⟩ := H.pc
  exact ⟨fun e => Blk.ne_ hk H.me.hdr (by decide) e.symm, fun e => Blk.ne_ hk hg (by decide) e.symm, hP.ne hk⟩
theorem Dr.blks (D : Dr w r gB gM B L M) : (∃ cs, Blk w r 40 cs) ∧ (∃ cs, Blk w gB 42 cs) ∧ ∃ cs, Blk w gM 5 cs := by
  obtain ⟨cs, A, c, cB, cM, k1, _⟩ := D.ex
  obtain ⟨cs2, hb, _⟩ := D.row
  exact ⟨⟨_, k1⟩, ⟨_, hb⟩, _, D.mem⟩
/-- The two heaps, the pair that holds them, and what was answered so far. -/
structure Pr (w : World) (base p h g gb cap mb r gB gM N : Nat) (A : Option Addr) (c : Nat) (B : List Bk) (L : Nat → List Nat) (m : Nat → Nat) (B2 : List Bk) (L2 : Nat → List Nat) (M : List UInt8) (l : List Nat) : Prop where
  pb : Blk w p 31 #[.pointer (some ⟨h, 0, none⟩), .pointer (some ⟨r, 0, none⟩), .slice A l.length c]
  own : w.ownsRow base 3 1 (.slice A l.length c) l.length (NV l)
  px : ∀ q ∈ blkOf A, q = xc
  hp : Hp w h g gb cap mb N B L m
  dr : Dr w r gB gM B2 L2 M
  len : M.length = N
  ne : gb ≠ gM
  g0 : g ≠ 0
  ge : base ≤ p ∧ base ≤ h ∧ base ≤ g ∧ base ≤ gb ∧ base ≤ mb ∧ base ≤ r ∧ base ≤ gB ∧ base ≤ gM
  bw : base ≤ w.heap.size
  sm : ∀ t ∈ l, t < 70000
theorem Pr.far (P : Pr w base p h g gb cap mb r gB gM N A c B L m B2 L2 M l) : (p ≠ h ∧ p ≠ g ∧ p ≠ gb ∧ p ≠ mb ∧ p ≠ r ∧ p ≠ gB ∧ p ≠ gM) ∧ (h ≠ r ∧ g ≠ r ∧ gb ≠ r ∧ mb ≠ r) ∧ (h ≠ gB ∧ g ≠ gB ∧ gb ≠ gB ∧ mb ≠ gB) ∧ (h ≠ gM ∧ g ≠ gM ∧ mb ≠ gM) ∧
    (∀ q ∈ blkOf A, q ≠ p ∧ q ≠ h ∧ q ≠ g ∧ q ≠ gb ∧ q ≠ mb ∧ q ≠ r ∧ q ≠ gB ∧ q ≠ gM) := by
  obtain ⟨⟨c1, k1⟩, ⟨c2, k2⟩, c3, k3⟩ := P.dr.blks
  have a1 := P.hp.apart P.pb (by decide)
  have a2 := P.hp.apart k1 (by decide)
  have a3 := P.hp.apart k2 (by decide)
  have a4 := P.hp.apart5 k3
  have d1 := Blk.ne_ P.pb k1 (by decide)
  have d2 := Blk.ne_ P.pb k2 (by decide)
  have d3 := Blk.ne_ P.pb k3 (by decide)
  refine ⟨⟨a1.1.symm, a1.2.1.symm, a1.2.2.1.symm, a1.2.2.2.symm, d1, d2, d3⟩, a2, a3, a4, fun q hq => ?_⟩
  obtain ⟨⟨cs1, hg⟩, cs2, hgb⟩ := P.hp.me.blks
  have f : ∀ {k : Nat} {t : TypeId} {cs : Array Value}, Blk w k t cs → (3 : TypeId) ≠ t → q ≠ k := fun hk ht e => own_ne P.own hk ht (e ▸ hq)
  obtain ⟨U, hP, hU⟩ := P.hp.pc
  refine ⟨f P.pb (by decide), f P.hp.me.hdr (by decide), f hg (by decide), f hgb (by decide), ?_, f k1 (by decide), f k2 (by decide), f k3 (by decide)⟩
  intro e
  cases hA : A with
  | none => rw [hA] at hq; cases hq
  | some a =>
    have ho := P.own
    have hlen := ho
    rcases ho.2 with ⟨hv, hn⟩ | ⟨g', cap', cur, hv, _, hg', _⟩
    · rw [hA] at hv; simp at hv
    · simp only [Value.slice.injEq] at hv
      rw [hv.1] at hq
      simp [blkOf] at hq
      exact hP.ne hg' (by rw [← e, hq])
theorem nm3 {a b c x : Nat} (h1 : x ≠ a) (h2 : x ≠ b) (h3 : x ≠ c) : x ∉ [a, b, c] := by simp [h1, h2, h3]
theorem ge3 {a b c n : Nat} (h1 : n ≤ a) (h2 : n ≤ b) (h3 : n ≤ c) : ∀ k ∈ [a, b, c], n ≤ k := by simp [h1, h2, h3]
/-- Behind a call on the program's heap. -/
theorem Pr.hcall {m' : Nat → Nat} (P : Pr w base p h g gb cap mb r gB gM N A c B L m B2 L2 M l) (o : Only [g, gb, mb] w w') (H : Hp w' h g gb cap mb N B' L' m') : Pr w' base p h g gb cap mb r gB gM N A c B' L' m' B2 L2 M l ∧ Below base w w' := by
  obtain ⟨⟨p1, p2, p3, p4, p5, p6, p7⟩, ⟨r1, r2, r3, r4⟩, ⟨b1, b2, b3, b4⟩, ⟨m1, m2, m3⟩, f5⟩ := P.far
  obtain ⟨g1, g2, g3, g4, g5, g6, g7, g8⟩ := P.ge
  exact ⟨⟨P.pb.only o (nm3 p2 p3 p4), own_only' P.own o (fun k hk => nm3 (f5 k hk).2.2.1 (f5 k hk).2.2.2.1 (f5 k hk).2.2.2.2.1), P.px, H, P.dr.only o (nm3 r2.symm r3.symm r4.symm) (nm3 b2.symm b3.symm b4.symm) (nm3 m2.symm P.ne.symm m3.symm) P.hp.noRow, P.len, P.ne, P.g0, P.ge, Nat.le_trans P.bw o.size, P.sm⟩, o.to (ge3 g3 g4 g5) P.bw⟩
theorem Pr.hread (P : Pr w base p h g gb cap mb r gB gM N A c B L m B2 L2 M l) (o : Only [g] w w') (H : Hp w' h g gb cap mb N B' L' m2) : Pr w' base p h g gb cap mb r gB gM N A c B' L' m2 B2 L2 M l ∧ Below base w w' := P.hcall (o.mono (by simp)) H
theorem Pr.hwrite (P : Pr w base p h g gb cap mb r gB gM N A c B L m B2 L2 M l) (o : Only [g, gb] w w') (H : Hp w' h g gb cap mb N B' L' m2) : Pr w' base p h g gb cap mb r gB gM N A c B' L' m2 B2 L2 M l ∧ Below base w w' := P.hcall (o.mono (fun x hx => .inl (by simp at hx ⊢; rcases hx with e | e <;> simp [e]))) H
/-- Behind a call on the document's heap. -/
theorem Pr.rcall (P : Pr w base p h g gb cap mb r gB gM N A c B L m B2 L2 M l) (k : DT w r gB gM B' L' M2 w') (hl : M2.length = N) : ∃ gB', Pr w' base p h g gb cap mb r gB' gM N A c B L m B' L' M2 l ∧ Below base w w' := by
  obtain ⟨⟨p1, p2, p3, p4, p5, p6, p7⟩, ⟨r1, r2, r3, r4⟩, ⟨b1, b2, b3, b4⟩, ⟨m1, m2, m3⟩, f5⟩ := P.far
  obtain ⟨g1, g2, g3, g4, g5, g6, g7, g8⟩ := P.ge
  have hbw := P.bw
  obtain ⟨q1, D, o, hg1⟩ := k
  have hq : base ≤ q1 := by rcases hg1 with e | e <;> omega
  exact ⟨q1, ⟨P.pb.only o (nm3 p5 p6 p7), own_only' P.own o (fun k hk => nm3 (f5 k hk).2.2.2.2.2.1 (f5 k hk).2.2.2.2.2.2.1 (f5 k hk).2.2.2.2.2.2.2), P.px, P.hp.only o (nm3 r1 b1 m1) (nm3 r2 b2 m2) (nm3 r3 b3 P.ne) (nm3 r4 b4 m3), D, hl, P.ne, P.g0, ⟨g1, g2, g3, g4, g5, g6, hq, g8⟩, Nat.le_trans P.bw o.size, P.sm⟩, o.to (ge3 g6 g7 g8) P.bw⟩
theorem Pr.keep (P : Pr w base p h g gb cap mb r gB gM N A c B L m B2 L2 M l) (o : Only [] w w') : Pr w' base p h g gb cap mb r gB gM N A c B L m B2 L2 M l ∧ Below base w w' :=
  ⟨⟨P.pb.only o (by simp), own_only' P.own o (fun k hk => by simp), P.px, P.hp.only0 o, P.dr.only0 o, P.len, P.ne, P.g0, P.ge, Nat.le_trans P.bw o.size, P.sm⟩, o.to (by simp) P.bw⟩
end
end Go.Proofs.YthlaoanfoimkfaaDoor
namespace Go.Proofs.YthlaoanfoimkfaaDoor
open Go.RowKit Go.Shelf
set_option linter.unusedVariables false
set_option linter.all false
set_option maxRecDepth 100000
attribute [local go_sem ↓] app_hide
theorem num_any (x : Int) (w : World) : Calls Tryd.prog 10 #[.int .i64 x] w fun e w' => e = .returned (.int .i64 x) ∧ w = w' := by
  go_enter Tryd.func10, Tryd.ntmps10
  go_wp2
  go_ret
  exact ⟨by simp, rfl⟩
/-- A step of the law. -/
def stpV (k n q a : Int) (odd : Bool) (wv : Nat) : Value := .agg #[.int .i64 k, .int .i64 n, .int .i64 q, .int .i64 a, .bool odd, .int .u32 wv]
/-- The offset that a step means. -/
def offV (l : List Nat) (a : Int) (odd : Bool) : Int := if odd = true ∨ a < 0 ∨ l = [] then a else (l.getD (a.toNat % l.length) 0 : Nat)
section
variable {w w' : World} {p h g gb cap mb r gB gM N base : Nat} {A : Option Addr} {c : Nat} {B B' B2 : List Bk} {L L' L2 : Nat → List Nat} {m m2 : Nat → Nat} {M M2 : List UInt8} {l : List Nat} {S : List Nat}
theorem off_walk {k n q a : Int} {odd : Bool} {wv len : Nat} {v0 v1 : Value} (hs : odd = true ∨ a < 0 ∨ len = 0) (kp : w.cell? ⟨p, 2, none⟩ = some (.slice A len c)) :
    Calls Tryd.prog 23 #[.pointer (some ⟨p, 0, none⟩), stpV k n q a odd wv] w fun e w' => e = .returned (.int .i64 a) ∧ Only [] w w' := by
  unfold stpV
  have m2 := cell_alloc (.cells #[.int .i64 k, .int .i64 n, .int .i64 q, .int .i64 a, .bool odd, .int .u32 wv] 35) kp
  by_cases h1 : odd = true
  · subst h1
    go_enter Tryd.func23, Tryd.ntmps23
    go_wp2
    go_ret
    exact ⟨by simp, (Only.refl [] w).alloc _⟩
  · obtain rfl : odd = false := by simpa using h1
    by_cases h2 : a < 0
    · go_enter Tryd.func23, Tryd.ntmps23
      go_wp2
      go_ret
      exact ⟨by simp, (Only.refl [] w).alloc _⟩
    · obtain rfl : len = 0 := by rcases hs with e | e | e; cases e; omega; exact e
      have hz : (((0 : Nat) : Int) == 0) = true := rfl
      go_enter Tryd.func23, Tryd.ntmps23
      go_wp2
      go_ret
      exact ⟨by simp, (Only.refl [] w).alloc _⟩
theorem off_walk2 {k n q a : Int} {wv len : Nat} {qb t : Nat} (h0 : 0 ≤ a) (hl : 0 < len) (hl2 : len < 100000) (kp : w.cell? ⟨p, 2, none⟩ = some (.slice (some ⟨qb, 0, none⟩) len c)) (kt : w.cell? ⟨qb, a.toNat % len, none⟩ = some (.int .i64 (t : Nat))) :
    Calls Tryd.prog 23 #[.pointer (some ⟨p, 0, none⟩), stpV k n q a false wv] w fun e w' => e = .returned (.int .i64 (t : Nat)) ∧ Only [] w w' := by
  unfold stpV
  obtain ⟨an, rfl⟩ : ∃ an : Nat, a = an := ⟨a.toNat, by omega⟩
  rw [Int.toNat_natCast] at kt
  have m2 := cell_alloc (.cells #[.int .i64 k, .int .i64 n, .int .i64 q, .int .i64 (an : Int), .bool false, .int .u32 wv] 35) kp
  have m3 := cell_alloc (.cells #[.int .i64 k, .int .i64 n, .int .i64 q, .int .i64 (an : Int), .bool false, .int .u32 wv] 35) kt
  obtain ⟨i, hi⟩ : ∃ i, an % len = i := ⟨_, rfl⟩
  have hil : i < len := hi ▸ Nat.mod_lt _ hl
  rw [hi] at kt m3
  have hlt : ¬ (an : Int) < 0 := by omega
  have hle : ¬ ((len : Int) = 0) := by omega
  have hle2 : ((len : Int) == 0) = false := by simp; omega
  have hrem : (an : Int).tmod (len : Int) = (i : Int) := by rw [← hi]; rfl
  have i0 : (0 : Int) ≤ (i : Int) := by omega
  have i1 : (i : Int) < (len : Int) := by omega
  go_enter Tryd.func23, Tryd.ntmps23
  go_wp2
  go_quiet (fail)
  go_wp2
  go_ret
  exact ⟨by simp, ((Only.refl [] w).alloc _).drewN _⟩
theorem got_walk0 {f b : Nat} (hf : f ≠ 0) :
    Calls Tryd.prog 25 #[.pointer (some ⟨p, 0, none⟩), .int .i64 b, .int .i64 f, .int .i64 b, .int .i64 f] w fun e w' => e = .returned (.bool true) ∧ w = w' := by
  have h1 : ¬ ((f : Int) = 0) := by omega
  have h2 : ((f : Int) == 0) = false := by simp; omega
  go_enter Tryd.func25, Tryd.ntmps25
  go_wp2_with (go_at_call 10; (with_reducible refine (num_any _ _).mono ?_); rintro e w' ⟨rfl, rfl⟩)
  go_ret
  exact ⟨by simp, rfl⟩
theorem got_walk {b len c2 : Nat} {A2 : Option Addr} {w2 : World} (kp : w.cell? ⟨p, 2, none⟩ = some (.slice A len c))
    (e1 : (AppH #[29, 29] 29 #[.slice A len c, .slice (some ⟨w.heap.size, 0, none⟩) 1 1]).run Tryd.prog (w.alloc (.cells #[.int .i64 (b : Int)] 3)) = .ok (.slice A2 (len + 1) c2) w2)
    (m3 : w2.cell? ⟨p, 2, none⟩ = some (.slice A len c)) (n3 : w2.frozen? ⟨p, 2, none⟩ = false) :
    Calls Tryd.prog 25 #[.pointer (some ⟨p, 0, none⟩), .int .i64 b, .int .i64 0, .int .i64 b, .int .i64 0] w fun e w' => e = .returned (.bool true) ∧ w' = w2.setCell ⟨p, 2, none⟩ (.slice A2 (len + 1) c2) := by
  have m2 := cell_alloc (.cells #[.int .i64 (b : Int)] 3) kp
  go_enter Tryd.func25, Tryd.ntmps25
  go_wp2_with (go_at_call 10; (with_reducible refine (num_any _ _).mono ?_); rintro e w' ⟨rfl, rfl⟩)
  go_ret
  exact ⟨by simp, rfl⟩
variable [HAdd Unit Unit Nat]
theorem Pr.slot2 (P : Pr w base p h g gb cap mb r gB gM N A c B L m B2 L2 M l) : w.cell? ⟨p, 2, none⟩ = some (.slice A l.length c) := by simpa using P.pb.cell 2
theorem Pr.slot0 (P : Pr w base p h g gb cap mb r gB gM N A c B L m B2 L2 M l) : w.cell? ⟨p, 0, none⟩ = some (.pointer (some ⟨h, 0, none⟩)) := by simpa using P.pb.cell 0
theorem Pr.slot1 (P : Pr w base p h g gb cap mb r gB gM N A c B L m B2 L2 M l) : w.cell? ⟨p, 1, none⟩ = some (.pointer (some ⟨r, 0, none⟩)) := by simpa using P.pb.cell 1
theorem off_any (P : Pr w base p h g gb cap mb r gB gM N A c B L m B2 L2 M l) (hl : l.length < 100000) (k n q a : Int) (odd : Bool) (wv : Nat) :
    Calls Tryd.prog 23 #[.pointer (some ⟨p, 0, none⟩), stpV k n q a odd wv] w fun e w' => e = .returned (.int .i64 (offV l a odd)) ∧ Only [] w w' := by
  unfold offV
  by_cases hs : odd = true ∨ a < 0 ∨ l = []
  · rw [if_pos hs]
    exact off_walk (v0 := undef) (v1 := undef) (by rcases hs with e | e | e; exact .inl e; exact .inr (.inl e); exact .inr (.inr (by simp [e]))) P.slot2
  · rw [if_neg hs]
    simp only [not_or] at hs
    obtain rfl : odd = false := by simpa using hs.1
    have hlp : 0 < l.length := by
      rcases l with _ | ⟨t, l⟩
      · exact absurd rfl hs.2.2
      · simp
    obtain ⟨qb, rfl, hc, _⟩ := own_cell P.own hlp
    have hil := Nat.mod_lt a.toNat hlp
    refine off_walk2 (qb := qb) (by omega) hlp hl P.slot2 ?_
    rw [hc _ (by simpa using hil)]
    rw [List.getD_eq_getElem?_getD, List.getElem?_eq_getElem hil]
    exact NV_get l _ _ (List.getElem?_eq_getElem hil)
end
section
variable {w w' : World} {p h g gb cap mb r gB gM N base : Nat} {A : Option Addr} {c : Nat} {B B' B2 : List Bk} {L L' L2 : Nat → List Nat} {m m2 : Nat → Nat} {M M2 : List UInt8} {l : List Nat} {S : List Nat}
/-- The document's heap, where another block is kept off. -/
theorem Dr.move {X Y : HAdd Unit Unit Nat} (D : @Dr X w r gB gM B L M) (o : Only S w w') (h1 : r ∉ S) (h2 : gB ∉ S) (h3 : gM ∉ S) (h4 : @NoRow X w S) (hy : w.heap.size ≤ @xc Y) (hlt : @xc Y < w'.heap.size) : @Dr Y w' r gB gM B L M := by
  obtain ⟨cs, A, c, cB, cM, k1, k2, k3, k4, k5⟩ := @Dr.ex X _ _ _ _ _ _ _ D
  refine @Dr.mk Y _ _ _ _ _ _ _ ⟨cs, A, c, cB, cM, k1.only o h1, k2, k3, k4, fun i hi => ⟨(k5 i hi).1, fun hl => ?_⟩⟩ ((@Dr.row X _ _ _ _ _ _ _ D).only o h2) ((@Dr.mem X _ _ _ _ _ _ _ D).only o h3) hlt
  obtain ⟨q, cs', e, hb, hc, hx⟩ := (k5 i hi).2 hl
  exact ⟨q, cs', e, hb.only o (fun hm => h4 q hm hb.lt hx cs' hb), hc, by have := hb.lt; omega⟩
/-- An answer is kept. -/
theorem got_yes {X : HAdd Unit Unit Nat} (P : @Pr X w base p h g gb cap mb r gB gM N A c B L m B2 L2 M l) (hl : l.length < 80000) {b : Nat} (hb : b < 70000) :
    Calls Tryd.prog 25 #[.pointer (some ⟨p, 0, none⟩), .int .i64 b, .int .i64 0, .int .i64 b, .int .i64 0] w fun e w' => e = .returned (.bool true) ∧ Below base w w' ∧ ∃ (Y : HAdd Unit Unit Nat) (A' : Option Addr) (c' : Nat), @Pr Y w' base p h g gb cap mb r gB gM N A' c' B L m B2 L2 M (l ++ [b]) := by
  have o1 : Only [] w (w.alloc (.cells #[.int .i64 (b : Int)] 3)) := (Only.refl [] w).alloc _
  have hbw0 := @Pr.bw X _ _ _ _ _ _ _ _ _ _ _ _ _ _ _ _ _ _ _ _ _ P
  have k2 := @Pr.slot2 _ _ _ _ _ _ _ _ _ _ _ _ _ _ _ _ _ _ _ _ _ X P
  obtain ⟨P1, -⟩ := @Pr.keep _ _ _ _ _ _ _ _ _ _ _ _ _ _ _ _ _ _ _ _ _ _ X P o1
  obtain ⟨pb, own, px, hp, dr, len, ne, g0, ge, bw, sm⟩ := P1
  obtain ⟨⟨p1, p2, p3, p4, p5, p6, p7⟩, ⟨r1, r2, r3, r4⟩, ⟨b1, b2, b3, b4⟩, ⟨m1, m2, m3⟩, f5⟩ := @Pr.far _ _ _ _ _ _ _ _ _ _ _ _ _ _ _ _ _ _ _ _ _ X (@Pr.mk X _ _ _ _ _ _ _ _ _ _ _ _ _ _ _ _ _ _ _ _ _ pb own px hp dr len ne g0 ge bw sm)
  obtain ⟨wA, hwA⟩ : ∃ wA, w.alloc (.cells #[.int .i64 (b : Int)] 3) = wA := ⟨_, rfl⟩
  have kb : wA.cell? ⟨w.heap.size, 0, none⟩ = some (.int .i64 (b : Nat)) := by rw [← hwA]; simpa using (Blk.new w 3 #[.int .i64 (b : Int)]).cell 0
  rw [hwA] at pb own hp dr bw o1
  obtain ⟨A1, c1, w2, e1, ro, o2, hA⟩ := app_own wA base A c l w.heap.size b l.length rfl own kb (by omega) bw
  have pb2 := pb.only o2 (fun hm => (f5 p hm).1 rfl)
  have nr : @NoRow X wA (blkOf A) := fun k hk _ hx => absurd (px k hk) hx
  have ho2 : ∀ q, (∀ k ∈ blkOf A, k ≠ q) → q ∉ blkOf A := fun q hh hm => hh q hm rfl
  obtain ⟨Y, hYA, D2⟩ : ∃ Y : HAdd Unit Unit Nat, (∀ q ∈ blkOf A1, q = @xc Y) ∧ @Dr Y w2 r gB gM B2 L2 M := by
    rcases hA with e | e
    · exact ⟨X, fun q hq => px q (e ▸ hq), @Dr.only _ _ _ _ _ _ _ _ _ X dr o2 (ho2 _ fun k hk => (f5 k hk).2.2.2.2.2.1) (ho2 _ fun k hk => (f5 k hk).2.2.2.2.2.2.1) (ho2 _ fun k hk => (f5 k hk).2.2.2.2.2.2.2) nr⟩
    · have hlt := (own_ge ro wA.heap.size (by rw [e]; simp)).2
      exact ⟨⟨fun _ _ => wA.heap.size⟩, fun q hq => by rw [e] at hq; exact List.mem_singleton.1 hq, Dr.move dr o2 (ho2 _ fun k hk => (f5 k hk).2.2.2.2.2.1) (ho2 _ fun k hk => (f5 k hk).2.2.2.2.2.2.1) (ho2 _ fun k hk => (f5 k hk).2.2.2.2.2.2.2) nr (Nat.le_refl _) hlt⟩
  have m3' : w2.cell? ⟨p, 2, none⟩ = some (.slice A l.length c) := by simpa using pb2.cell 2
  have hp2 := hp.only o2 (ho2 _ fun k hk => (f5 k hk).2.1) (ho2 _ fun k hk => (f5 k hk).2.2.1) (ho2 _ fun k hk => (f5 k hk).2.2.2.1) (ho2 _ fun k hk => (f5 k hk).2.2.2.2.1)
  rw [← hwA] at e1
  refine (got_walk k2 e1 m3' (pb2.frozen 2)).mono ?_
  rintro e w' ⟨rfl, hw'⟩
  have o3 : Only [p] w2 w' := hw' ▸ (Only.refl [p] w2).setCell (p := ⟨p, 2, none⟩) (.inl (by simp)) _
  have pb3 : Blk w' p 31 #[.pointer (some ⟨h, 0, none⟩), .pointer (some ⟨r, 0, none⟩), .slice A1 (l ++ [b]).length c1] := by
    have := pb2.set_ 2 (.slice A1 (l.length + 1) c1)
    rw [← hw'] at this
    simpa using this
  have hpA1 : p ∉ blkOf A1 := own_ne ro pb2 (by decide)
  have ro3 : w'.ownsRow base 3 1 (.slice A1 (l ++ [b]).length c1) (l ++ [b]).length (NV (l ++ [b])) := by
    have := own_only' ro o3 (fun k hk => by simp; exact fun e => hpA1 (e ▸ hk))
    simpa using this
  have hbel : Below base w w' := by
    have h1 := o1.to (by simp) hbw0
    have h2 := o2.to (n := base) (fun k hk => (own_ge own k hk).1) bw
    have h3 := o3.to (n := base) (by simp; exact ge.1) (Nat.le_trans bw o2.size)
    exact (h1.trans h2).trans h3
  refine ⟨rfl, hbel, Y, A1, c1, ?_⟩
  exact @Pr.mk Y _ _ _ _ _ _ _ _ _ _ _ _ _ _ _ _ _ _ _ _ _ pb3 ro3 hYA (hp2.only o3 (by simp; exact p1.symm) (by simp; exact p2.symm) (by simp; exact p3.symm) (by simp; exact p4.symm))
    (@Dr.only _ _ _ _ _ _ _ _ _ Y D2 o3 (by simp; exact p5.symm) (by simp; exact p6.symm) (by simp; exact p7.symm) (@NoRow.of Y _ _ _ _ pb2 (by decide))) len ne g0 ge (Nat.le_trans bw (Nat.le_trans o2.size o3.size)) (fun t ht => by
      rcases List.mem_append.1 ht with q | q
      · exact sm t q
      · rw [List.mem_singleton.1 q]; exact hb)
end
end Go.Proofs.YthlaoanfoimkfaaDoor
namespace Go.Proofs.YthlaoanfoimkfaaDoor
open Go.RowKit Go.Shelf
set_option linter.unusedVariables false
set_option linter.all false
set_option maxRecDepth 100000
section
variable {w w' : World} {p h g gb cap mb r gB gM N base : Nat} {A : Option Addr} {c : Nat} {B B' B2 : List Bk} {L L' L2 : Nat → List Nat} {m m2 : Nat → Nat} {M M2 : List UInt8} {l : List Nat} {S : List Nat}
set_option maxHeartbeats 4000000 in
theorem fresh_walk {a n was len : Nat} {J J2 : Nat → World → Prop} {J3 : Nat → Nat → World → Prop} (ha : a < 70000) (hn : n < 70000) (hw : was < 70000) (hlen : len < 100000) (k2 : w.cell? ⟨p, 2, none⟩ = some (.slice A len c)) (k1 : w.cell? ⟨p, 1, none⟩ = some (.pointer (some ⟨r, 0, none⟩)))
    (SZ : Calls Tryd.prog 30 #[.pointer (some ⟨r, 0, none⟩), .int .i64 a] w fun e w' => e = .returned (.tuple #[.int .i64 n, .int .i64 0]) ∧ w = w') (J0 : J 0 w)
    (SL : ∀ k W, J k W → W.cell? ⟨p, 0, none⟩ = some (.pointer (some ⟨h, 0, none⟩)) ∧ W.cell? ⟨p, 1, none⟩ = some (.pointer (some ⟨r, 0, none⟩))) (SL2 : ∀ k W, J2 k W → W.cell? ⟨p, 0, none⟩ = some (.pointer (some ⟨h, 0, none⟩))) (SL3 : ∀ k v W, J3 k v W → W.cell? ⟨p, 1, none⟩ = some (.pointer (some ⟨r, 0, none⟩)))
    (SET : ∀ k W, J k W → was ≤ k → k + 4 ≤ n → Calls Tryd.prog 34 #[.pointer (some ⟨r, 0, none⟩), .int .i64 ((a : Int) + (k : Int)), .int .u32 (1000 + (len : Int))] W fun e w' => e = .returned (.tuple #[]) ∧ J2 k w')
    (SETH : ∀ k W, J2 k W → Calls Tryd.prog 32 #[.pointer (some ⟨h, 0, none⟩), .int .i64 ((a : Int) + (k : Int)), .int .u32 (1000 + (len : Int))] W fun e w' => e = .returned (.int .i64 0) ∧ J (k + 4) w')
    (GET : ∀ k W, J k W → k < was → k + 4 ≤ n → Calls Tryd.prog 9 #[.pointer (some ⟨h, 0, none⟩), .int .i64 ((a : Int) + (k : Int))] W fun e w' => ∃ v : Nat, e = .returned (.tuple #[.int .u32 v, .int .i64 0]) ∧ J3 k v w')
    (GETR : ∀ k v W, J3 k v W → Calls Tryd.prog 11 #[.pointer (some ⟨r, 0, none⟩), .int .i64 ((a : Int) + (k : Int))] W fun e w' => e = .returned (.int .u32 (v : Nat)) ∧ J (k + 4) w') :
    Calls Tryd.prog 26 #[.pointer (some ⟨p, 0, none⟩), .int .i64 a, .int .i64 was] w fun e w' => e = .returned (.bool true) ∧ ∃ k, n < k + 4 ∧ J k w' := by
  have hcv : IntKind.u32.wrap (1000 + (len : Int)) = 1000 + (len : Int) := by rw [IntKind.wrap_u32]; omega
  have hwl : IntKind.i64.wrap (1000 + (len : Int)) = 1000 + (len : Int) := wraps_i64 _ (by omega) (by omega)
  have SZ := Lib.hid SZ
  have SET := Lib.hid SET
  have SETH := Lib.hid SETH
  have GET := Lib.hid GET
  have GETR := Lib.hid GETR
  have SL := Lib.hid SL
  have SL2 := Lib.hid SL2
  have SL3 := Lib.hid SL3
  have J0 := Lib.hid J0
  go_enter Tryd.func26, Tryd.ntmps26
  go_wp2_with (first
    | (go_at_call 30; (with_reducible refine SZ.out.mono ?_); rintro e w' ⟨rfl, rfl⟩))
  go_loopw [10] (fun vk wr => ∃ k : Nat, k ≤ n + 3 ∧ vk = .int .i64 (k : Nat) ∧ Hid (J k wr)) (fun vk _ => (n + 10 - (intOf vk).toNat))
  case atStart => exact ⟨0, by omega, rfl, J0⟩
  case round =>
    obtain ⟨k, hk, rfl, hj⟩ := hrel
    obtain ⟨q0, q1⟩ := SL.out k wr hj.out
    have hw4 : IntKind.i64.wrap ((k : Int) + 4) = (k : Int) + 4 := wraps_i64 _ (by omega) (by omega)
    have hwa : IntKind.i64.wrap ((a : Int) + (k : Int)) = (a : Int) + (k : Int) := wraps_i64 _ (by omega) (by omega)
    by_cases hlt : k + 4 ≤ n
    · have hlt2 : (k : Int) + 4 ≤ (n : Int) := by omega
      by_cases hwas : was ≤ k
      · have hwas2 : (was : Int) ≤ (k : Int) := by omega
        go_wp2_with (first
          | (go_at_call 34; (with_reducible refine (SET.out k _ hj.out hwas hlt).mono ?_); rintro e w2 ⟨rfl, j2⟩; have q0 := SL2.out k _ j2; have j2 := Lib.hid j2)
          | (go_at_call 32; (with_reducible refine (SETH.out k _ j2.out).mono ?_); rintro e w3 ⟨rfl, j3⟩; have j3 := Lib.hid j3)
          | (go_at_call 10; (with_reducible refine (num_any _ _).mono ?_); rintro e w' ⟨rfl, rfl⟩))
        go_roundw
        case rel => exact ⟨k + 4, by omega, by go_num, j3⟩
        case measure => first | (simp [intOf]; done) | (simp [intOf]; omega)
      · have hwas2 : ¬ (was : Int) ≤ (k : Int) := by omega
        go_wp2_with (first
          | (go_at_call 9; (with_reducible refine (GET.out k _ hj.out (by omega) hlt).mono ?_); rintro e w2 ⟨v, rfl, j2⟩; have q1 := SL3.out k v _ j2; have j2 := Lib.hid j2)
          | (go_at_call 11; (with_reducible refine (GETR.out k _ _ j2.out).mono ?_); rintro e w3 ⟨rfl, j3⟩; have j3 := Lib.hid j3)
          | (go_at_call 10; (with_reducible refine (num_any _ _).mono ?_); rintro e w' ⟨rfl, rfl⟩))
        go_roundw
        case rel => exact ⟨k + 4, by omega, by go_num, j3⟩
        case measure => first | (simp [intOf]; done) | (simp [intOf]; omega)
    · have hlt2 : ¬ (k : Int) + 4 ≤ (n : Int) := by omega
      go_wp2
      go_ret
      exact ⟨by simp, k, by omega, hj.out⟩
end
end Go.Proofs.YthlaoanfoimkfaaDoor
namespace Go.Proofs.YthlaoanfoimkfaaDoor
open Go.RowKit Go.Shelf
set_option linter.unusedVariables false
set_option linter.all false
set_option maxRecDepth 100000
theorem tile_len : ∀ {B : List Bk} {p N : Nat}, Tile p B N → p + 16 * B.length ≤ N
  | [], p, N, h => by
    have : p = N := h
    simp; omega
  | b :: B, p, N, h => by
    have := tile_len h.2.2.2
    have := h.2.1
    simp; omega
theorem nd_len : ∀ (l B : List Nat), l.Nodup → (∀ a ∈ l, a ∈ B) → l.length ≤ B.length
  | [], _, _, _ => Nat.zero_le _
  | a :: l, B, hn, hs => by
    have h1 : a ∈ B := hs a (by simp)
    have := nd_len l (B.erase a) (List.nodup_cons.1 hn).2 (fun x hx => (List.mem_erase_of_ne (by rintro rfl; exact (List.nodup_cons.1 hn).1 hx)).2 (hs x (by simp [hx])))
    rw [List.length_erase_of_mem h1] at this
    have := List.length_pos_of_mem h1
    simp; omega
section
variable {w w' : World} {p h g gb cap mb r gB gM N base : Nat} {A : Option Addr} {c : Nat} {B B' B2 : List Bk} {L L' L2 : Nat → List Nat} {m m2 : Nat → Nat} {M M2 : List UInt8} {l : List Nat} {S : List Nat}
theorem Inv.blen (hI : Inv N m B L) : B.length ≤ 4096 := by
  have := tile_len hI.tile
  have := hI.size
  omega
theorem Inv.llen (hI : Inv N m B L) (c : Nat) : (L c).length ≤ 4096 := by
  have := nd_len (L c) (B.map Bk.at') (hI.nodup c) (fun a ha => by
    obtain ⟨b, hb, e, _⟩ := (hI.mem c a).1 ha
    exact List.mem_map.2 ⟨b, hb, e⟩)
  have hb := hI.blen
  rw [List.length_map] at this
  omega
/-- The words of the pieces are alike, but those of one from a place on. -/
def AgX (B : List Bk) (m : Nat → Nat) (M : List UInt8) (a s : Nat) : Prop := ∀ b ∈ B, b.k = 0 → ∀ x, x % 4 = 0 → b.at' + 8 ≤ x → x < b.at' + b.size → (b.at' = a → x < a + 8 + s) → wd M x = m x
def Ag (B : List Bk) (m : Nat → Nat) (M : List UInt8) : Prop := ∀ b ∈ B, b.k = 0 → ∀ x, x % 4 = 0 → b.at' + 8 ≤ x → x < b.at' + b.size → wd M x = m x
theorem AgX.all {a s : Nat} (h : AgX B m M a s) (hs : ∀ b ∈ B, b.at' = a → b.size ≤ s + 8) : Ag B m M := fun b hb hk x h1 h2 h3 => h b hb hk x h1 h2 h3 (fun e => by have := hs b hb e; omega)
theorem Ag.x (h : Ag B m M) (a s : Nat) : AgX B m M a s := fun b hb hk x h1 h2 h3 _ => h b hb hk x h1 h2 h3
theorem AgX.set {a s k v : Nat} (h : AgX B m M a s) (hs : s ≤ k) (hs2 : k ≤ s + 3) (hk4 : k % 4 = 0) (ha : a % 4 = 0) {M' : List UInt8} (hw : wd M' = upd (wd M) (a + 8 + k) v) : AgX B (upd m (a + 8 + k) v) M' a (k + 4) := fun b hb hk x h1 h2 h3 h4 => by
  rw [hw]
  unfold upd
  by_cases e : x = a + 8 + k
  · rw [if_pos e, if_pos e]
  · rw [if_neg e, if_neg e]
    exact h b hb hk x h1 h2 h3 (fun e2 => by have := h4 e2; omega)
variable [HAdd Unit Unit Nat]
theorem inB_of {b : Bk} (hb : b ∈ B) (hk : b.k = 0) {x : Nat} (h4 : x % 4 = 0) (h1 : b.at' + 8 ≤ x) (h2 : x < b.at' + b.size) : inB B (x : Int) = true := inB_true (by omega) hb ⟨hk, by omega, by omega⟩
theorem Pr.dset (P : Pr w base p h g gb cap mb r gB gM N A c B L m B2 L2 M l) {o v : Nat} (ho : o + 4 ≤ N) (hv : v < 4294967296) :
    Calls Tryd.prog 34 #[.pointer (some ⟨r, 0, none⟩), .int .i64 (o : Nat), .int .u32 (v : Nat)] w fun e w' => e = .returned (.tuple #[]) ∧ Below base w w' ∧ ∃ gB', Pr w' base p h g gb cap mb r gB' gM N A c B L m B2 L2 (mset M o v 4) l := by
  have hN := P.hp.inv.size
  have hl := P.len
  refine (dset_any P.dr (by omega) (by omega) hv).mono ?_
  rintro e w' ⟨rfl, o1, D1⟩
  obtain ⟨gB', P1, hb⟩ := P.rcall ⟨gB, D1, o1.mono (by simp), .inl rfl⟩ (by rw [mset_len]; exact hl)
  exact ⟨rfl, hb, gB', P1⟩
theorem fresh_any {b : Bk} (P : Pr w base p h g gb cap mb r gB gM N A c B L m B L M l) (hb : b ∈ B) (hk : b.k = 0) {was : Nat} (hw1 : was < 70000) (hw4 : was % 4 = 0) (hag : AgX B m M b.at' was) (hl : l.length < 80000) :
    Calls Tryd.prog 26 #[.pointer (some ⟨p, 0, none⟩), .int .i64 (b.at' + 8 : Nat), .int .i64 was] w fun e w' => e = .returned (.bool true) ∧ Below base w w' ∧ ∃ gB' m' M', Pr w' base p h g gb cap mb r gB' gM N A c B L m' B L M' l ∧ Ag B m' M' := by
  have hI := P.hp.inv
  have hs := hI.size
  have ht := Tile.mem hI.tile b hb
  have hbl := hI.blen
  have hlen := P.len
  obtain ⟨A0, C0, hB⟩ := List.append_of_mem hb
  have SZ := dsize_yes (hB ▸ P.dr) (by rw [← hB]; omega) (hB ▸ hI.tile) hs.2.1 (by omega) (w := w)
  obtain ⟨a, ha⟩ : ∃ a, b.at' + 8 = a := ⟨_, rfl⟩
  rw [ha] at SZ ⊢
  refine (fresh_walk (n := b.size - 8) (was := was) (len := l.length) (h := h) (J := fun k W => k % 4 = 0 ∧ Below base w W ∧ ∃ gB' m' M', Pr W base p h g gb cap mb r gB' gM N A c B L m' B L M' l ∧ AgX B m' M' b.at' (max was k))
    (J2 := fun k W => k % 4 = 0 ∧ was ≤ k ∧ k + 4 ≤ b.size - 8 ∧ Below base w W ∧ ∃ gB' m' M', Pr W base p h g gb cap mb r gB' gM N A c B L m' B L (mset M' (a + k) (1000 + l.length) 4) l ∧ M'.length = N ∧ AgX B m' M' b.at' (max was k))
    (J3 := fun k v W => k % 4 = 0 ∧ k < was ∧ k + 4 ≤ b.size - 8 ∧ Below base w W ∧ ∃ gB' m' M', Pr W base p h g gb cap mb r gB' gM N A c B L m' B L M' l ∧ AgX B m' M' b.at' (max was k) ∧ m' (a + k) = v)
    (by omega) (by omega) hw1 (by omega) P.slot2 P.slot1 SZ ⟨rfl, Below.refl _ _, gB, m, M, P, by simpa using hag⟩
    (fun k W ⟨_, _, gB', m', M', P', _⟩ => ⟨P'.slot0, P'.slot1⟩) (fun k W ⟨_, _, _, _, gB', m', M', P', _⟩ => P'.slot0) (fun k v W ⟨_, _, _, _, gB', m', M', P', _⟩ => P'.slot1) ?_ ?_ ?_ ?_).mono ?_
  · rintro k W ⟨h4, hbe, gB', m', M', P', hx⟩ hwk hkn
    rw [show (a : Int) + (k : Int) = ((a + k : Nat) : Int) by omega, show (1000 + (l.length : Int)) = ((1000 + l.length : Nat) : Int) by omega]
    refine (P'.dset (o := a + k) (v := 1000 + l.length) (by omega) (by omega)).mono ?_
    rintro e w' ⟨rfl, hb2, gB2, P2⟩
    exact ⟨rfl, h4, hwk, hkn, hbe.trans hb2, gB2, m', M', P2, P'.len, hx⟩
  · rintro k W ⟨h4, hwk, hkn, hbe, gB', m', M', P', hMl, hx⟩
    rw [show (a : Int) + (k : Int) = ((a + k : Nat) : Int) by omega, show (1000 + (l.length : Int)) = ((1000 + l.length : Nat) : Int) by omega]
    refine (set_in P'.hp (p := a + k) (v := 1000 + l.length) (inB_of hb hk (by omega) (by omega) (by omega)) (by omega)).mono ?_
    rintro e w' ⟨rfl, o2, H2⟩
    obtain ⟨P2, hb2⟩ := P'.hwrite o2 H2
    refine ⟨rfl, by omega, hbe.trans hb2, gB', _, _, P2, ?_⟩
    have hm : max was k = k := by omega
    have hm2 : max was (k + 4) = k + 4 := by omega
    rw [hm] at hx
    rw [hm2, ← ha]
    exact hx.set (Nat.le_refl _) (by omega) h4 (by omega) (wd_mset (by omega) (by omega) (by omega))
  · rintro k W ⟨h4, hbe, gB', m', M', P', hx⟩ hwk hkn
    rw [show (a : Int) + (k : Int) = ((a + k : Nat) : Int) by omega]
    refine (get_in P'.hp (p := a + k) (inB_of hb hk (by omega) (by omega) (by omega))).mono ?_
    rintro e w' ⟨rfl, o2, H2⟩
    obtain ⟨P2, hb2⟩ := P'.hread o2 H2
    exact ⟨m' (a + k), rfl, h4, hwk, hkn, hbe.trans hb2, gB', m', M', P2, hx, rfl⟩
  · rintro k v W ⟨h4, hwk, hkn, hbe, gB', m', M', P', hx, hv⟩
    rw [show (a : Int) + (k : Int) = ((a + k : Nat) : Int) by omega]
    have hMl := P'.len
    refine (dget_any P'.dr (by omega) (o := a + k) (by omega) (by omega)).mono ?_
    rintro e w' ⟨rfl, rfl⟩
    have e1 : wd M' (a + k) = v := by rw [← hv]; exact hx b hb hk _ (by omega) (by omega) (by omega) (fun _ => by omega)
    exact ⟨by rw [e1], by omega, hbe, gB', m', M', P', by rw [show max was (k + 4) = max was k by omega]; exact hx⟩
  · rintro e w' ⟨rfl, k, hkn, h4, hbe, gB', m', M', P', hx⟩
    refine ⟨rfl, hbe, gB', m', M', P', hx.all (fun y hy e => ?_)⟩
    have := hI.tile.inj hy hb e
    rw [this]
    omega
end
end Go.Proofs.YthlaoanfoimkfaaDoor
