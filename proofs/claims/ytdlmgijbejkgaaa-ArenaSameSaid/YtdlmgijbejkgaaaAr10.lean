/- Walks over arena's law: do. -/
import Derived.Test.YtdlmgijbejkgaaaAr9
import Derived.BigRegion
namespace Go.Proofs.Ytdlmgijbejkgaaa
open Go.RowKit
set_option linter.unusedVariables false
set_option linter.all false
set_option maxRecDepth 100000

theorem src_lit (w : World) (ds : List UInt8) : Src (w.alloc (.cells (U8s ds).toArray 5)) (some ⟨w.heap.size, 0, none⟩) ds := fun _ => ⟨_, rfl, fun j u hj => by
  rw [show (⟨w.heap.size, 0, none⟩ : Addr).add j = ⟨w.heap.size, j, none⟩ from by unfold Addr.add; split <;> simp_all]
  rw [(Blk.new w 5 _).cell j, List.getElem?_toArray, hj]⟩
/-- What a step does to a pair: it answers true, the pair stands, the cost is one more at most. -/
def Did (w : World) (B g gb rg rgb : Nat) (c : Int) (e : Ending) (w' : World) : Prop :=
  Only [g, gb, rg, rgb] w w' ∧ ∃ (g' gb' cap' rcap' : Nat) (bs' : List UInt8) (c' : Int), e = .returned (.tuple #[.pointer (some ⟨g', 0, none⟩), .pointer (some ⟨rg, 0, none⟩), .bool true]) ∧ Pr w' B g' gb' cap' rg rgb rcap' bs' c' ∧ c' ≤ c + 1 ∧ (g' = g ∨ w.heap.size ≤ g') ∧ (gb' = gb ∨ w.heap.size ≤ gb')
theorem Pr.only {w w' : World} {B g gb cap rg rgb rcap : Nat} {bs : List UInt8} {c : Int} {S : List Nat} (h : Pr w B g gb cap rg rgb rcap bs c) (ho : Only S w w') (h1 : g ∉ S) (h2 : gb ∉ S) (h3 : rg ∉ S) (h4 : rgb ∉ S) : Pr w' B g gb cap rg rgb rcap bs c :=
  ⟨h.a.only ho h1 h2, h.r.only ho h3 h4, h.n1, h.n2, h.n3, h.n4, h.g1, h.g2, h.g3, h.g4, h.c0, h.l0⟩
theorem Pr.only0 {w w' : World} {B g gb cap rg rgb rcap : Nat} {bs : List UInt8} {c : Int} (h : Pr w B g gb cap rg rgb rcap bs c) (ho : Only [] w w') : Pr w' B g gb cap rg rgb rcap bs c := h.only ho (by simp) (by simp) (by simp) (by simp)

section
variable {B g gb cap rg rgb rcap : Nat} {bs : List UInt8} {c : Int} {w : World}
def stV (kd off n : Int) (word : Nat) (dA : Option Addr) (dn dc : Nat) : Value := .agg #[.int .i64 kd, .int .i64 off, .int .i64 n, .int .u32 word, .slice dA dn dc]

theorem do_other (kd off n : Int) (word : Nat) (dA : Option Addr) (dn dc : Nat) (h : Pr w B g gb cap rg rgb rcap bs c) (hk : kd < 1 ∨ 6 < kd) :
    Calls Try.prog 16 #[.pointer (some ⟨g, 0, none⟩), .pointer (some ⟨rg, 0, none⟩), .agg #[.int .i64 kd, .int .i64 off, .int .i64 n, .int .u32 word, .slice dA dn dc]] w (Did w B g gb rg rgb c) := by
  have e1 : (kd == 1) = false := by simp; omega
  have e2 : (kd == 2) = false := by simp; omega
  have e3 : (kd == 3) = false := by simp; omega
  have e4 : (kd == 4) = false := by simp; omega
  have e5 : (kd == 5) = false := by simp; omega
  have e6 : (kd == 6) = false := by simp; omega
  have H := hide h
  clear h hk
  go_enter Try.func16, Try.ntmps16
  go_wp2_with fail
  go_ret3
  exact ⟨(Only.refl _ _).alloc _, _, _, _, _, _, _, rfl, H.out.only0 ((Only.refl _ _).alloc _), by omega, .inl rfl, .inl rfl⟩

set_option maxHeartbeats 1000000 in
theorem do_get_good (off : Nat) (n : Int) (word : Nat) (dA : Option Addr) (dn dc : Nat) (h : Pr w B g gb cap rg rgb rcap bs c) (ho : off < bs.length) (h4 : off % 4 = 0) (hc : c < 1000000):
    Calls Try.prog 16 #[.pointer (some ⟨g, 0, none⟩), .pointer (some ⟨rg, 0, none⟩), .agg #[.int .i64 1, .int .i64 off, .int .i64 n, .int .u32 word, .slice dA dn dc]] w (Did w B g gb rg rgb c) := by
  have H := hide h
  have H4 := hide h4
  clear h h4
  have hb := Blk.new w 47 #[.int .i64 1, .int .i64 off, .int .i64 n, .int .u32 word, .slice dA dn dc]
  have o1 := (Only.refl [] w).alloc (.cells #[.int .i64 1, .int .i64 off, .int .i64 n, .int .u32 word, .slice dA dn dc] 47)
  have a1 : Only [g, gb, rg, rgb] w (w.alloc (.cells #[.int .i64 1, .int .i64 off, .int .i64 n, .int .u32 word, .slice dA dn dc] 47)) := (Only.refl _ w).alloc _
  have hlt : g < w.heap.size := H.out.a.hdr.lt
  have hlt2 : rg < w.heap.size := H.out.r.hdr.lt
  go_enter Try.func16, Try.ntmps16
  go_wp2_with fail
  refine (get_good g gb cap bs c off _ (H.out.only0 o1).a ho H4.out H.out.c0 hc).mono ?_
  rintro e w2 ⟨rfl, o2, hA2⟩
  have hb2 := hb.only o2 (by simp; omega)
  have q1 : w2.cell? ⟨w.heap.size, 1, none⟩ = some (.int .i64 off) := by simpa using hb2.cell 1
  have hR2 := (H.out.only0 o1).r.only o2 (by simpa using H.out.n1.symm) (by simpa using H.out.n2.symm)
  go_wp2_with fail
  refine (rget_good rg rgb rcap bs c off _ hR2 ho H4.out H.out.c0 hc).mono ?_
  rintro e w3 ⟨rfl, o3, hR3⟩
  have hA3 := hA2.only o3 (by simpa using H.out.n1) (by simpa using H.out.n3)
  go_wp2_with (go_at_call 9; refine (num_any _ _).mono ?_; rintro e w' ⟨rfl, rfl⟩)
  go_ret3
  have hP := H.out
  exact ⟨(a1.trans o2 (by simp)).trans o3 (by simp), _, _, _, _, _, _, rfl, ⟨hA3, hR3, hP.n1, hP.n2, hP.n3, hP.n4, hP.g1, hP.g2, hP.g3, hP.g4, by have := hP.c0; omega, hP.l0⟩, Int.le_refl _, .inl rfl, .inl rfl⟩

set_option maxHeartbeats 1000000 in
theorem do_get_bad (off n : Int) (word : Nat) (dA : Option Addr) (dn dc : Nat) (h : Pr w B g gb cap rg rgb rcap bs c) (ho : ¬ (0 ≤ off ∧ off < bs.length ∧ off % 4 = 0)) (hlo : -9223372036854775808 ≤ off):
    Calls Try.prog 16 #[.pointer (some ⟨g, 0, none⟩), .pointer (some ⟨rg, 0, none⟩), .agg #[.int .i64 1, .int .i64 off, .int .i64 n, .int .u32 word, .slice dA dn dc]] w (Did w B g gb rg rgb c) := by
  have H := hide h
  have HO := hide ho
  clear h ho
  have hb := Blk.new w 47 #[.int .i64 1, .int .i64 off, .int .i64 n, .int .u32 word, .slice dA dn dc]
  have o1 := (Only.refl [] w).alloc (.cells #[.int .i64 1, .int .i64 off, .int .i64 n, .int .u32 word, .slice dA dn dc] 47)
  have a1 : Only [g, gb, rg, rgb] w (w.alloc (.cells #[.int .i64 1, .int .i64 off, .int .i64 n, .int .u32 word, .slice dA dn dc] 47)) := (Only.refl _ w).alloc _
  have hlt : g < w.heap.size := H.out.a.hdr.lt
  have hlt2 : rg < w.heap.size := H.out.r.hdr.lt
  go_enter Try.func16, Try.ntmps16
  go_wp2_with fail
  refine (get_bad g gb cap bs c off _ (H.out.only0 o1).a HO.out hlo).mono ?_
  rintro e w2 ⟨rfl, o2⟩
  have hb2 := hb.only o2 (by simp)
  have q1 : w2.cell? ⟨w.heap.size, 1, none⟩ = some (.int .i64 off) := by simpa using hb2.cell 1
  have hP2 := (H.out.only0 o1).only0 o2
  go_wp2_with fail
  refine (rget_bad rg rgb rcap bs c off _ hP2.r HO.out hlo).mono ?_
  rintro e w3 ⟨rfl, rfl⟩
  go_wp2_with (go_at_call 9; refine (num_any _ _).mono ?_; rintro e w' ⟨rfl, rfl⟩)
  go_ret3
  exact ⟨a1.trans o2 (by simp), _, _, _, _, _, _, rfl, hP2, by omega, .inl rfl, .inl rfl⟩

set_option maxHeartbeats 1000000 in
theorem do_reset (off n : Int) (word : Nat) (dA : Option Addr) (dn dc : Nat) (h : Pr w B g gb cap rg rgb rcap bs c) :
    Calls Try.prog 16 #[.pointer (some ⟨g, 0, none⟩), .pointer (some ⟨rg, 0, none⟩), .agg #[.int .i64 5, .int .i64 off, .int .i64 n, .int .u32 word, .slice dA dn dc]] w (Did w B g gb rg rgb c) := by
  have H := hide h
  clear h
  have hb := Blk.new w 47 #[.int .i64 5, .int .i64 off, .int .i64 n, .int .u32 word, .slice dA dn dc]
  have o1 := (Only.refl [] w).alloc (.cells #[.int .i64 5, .int .i64 off, .int .i64 n, .int .u32 word, .slice dA dn dc] 47)
  have a1 : Only [g, gb, rg, rgb] w (w.alloc (.cells #[.int .i64 5, .int .i64 off, .int .i64 n, .int .u32 word, .slice dA dn dc] 47)) := (Only.refl _ w).alloc _
  have hlt : g < w.heap.size := H.out.a.hdr.lt
  have hlt2 : rg < w.heap.size := H.out.r.hdr.lt
  go_enter Try.func16, Try.ntmps16
  go_wp2_with fail
  refine (reset_any g gb cap bs c _ (H.out.only0 o1).a H.out.c0).mono ?_
  rintro e w2 ⟨rfl, o2, hA2⟩
  have hR2 := (H.out.only0 o1).r.only o2 (by simpa using H.out.n1.symm) (by simpa using H.out.n2.symm)
  go_wp2_with fail
  refine (rreset_any rg rgb rcap bs c _ hR2).mono ?_
  rintro e w3 ⟨rfl, o3, hR3⟩
  have hA3 := hA2.only o3 (by simpa using H.out.n1) (by simpa using H.out.n3)
  go_wp2_with fail
  go_ret3
  have hP := H.out
  exact ⟨(a1.trans o2 (by simp)).trans o3 (by simp), _, _, _, _, _, _, rfl, ⟨hA3, hR3, hP.n1, hP.n2, hP.n3, hP.n4, hP.g1, hP.g2, hP.g3, hP.g4, Int.le_refl _, hP.l0⟩, by have := hP.c0; omega, .inl rfl, .inl rfl⟩

set_option maxHeartbeats 1000000 in
theorem do_copy (off n : Int) (word : Nat) (dA : Option Addr) (dn dc : Nat) (h : Pr w B g gb cap rg rgb rcap bs c) (hc : c < 1000000):
    Calls Try.prog 16 #[.pointer (some ⟨g, 0, none⟩), .pointer (some ⟨rg, 0, none⟩), .agg #[.int .i64 6, .int .i64 off, .int .i64 n, .int .u32 word, .slice dA dn dc]] w (Did w B g gb rg rgb c) := by
  have H := hide h
  clear h
  have hb := Blk.new w 47 #[.int .i64 6, .int .i64 off, .int .i64 n, .int .u32 word, .slice dA dn dc]
  have o1 := (Only.refl [] w).alloc (.cells #[.int .i64 6, .int .i64 off, .int .i64 n, .int .u32 word, .slice dA dn dc] 47)
  have a1 : Only [g, gb, rg, rgb] w (w.alloc (.cells #[.int .i64 6, .int .i64 off, .int .i64 n, .int .u32 word, .slice dA dn dc] 47)) := (Only.refl _ w).alloc _
  have hlt : g < w.heap.size := H.out.a.hdr.lt
  have hlt2 : rg < w.heap.size := H.out.r.hdr.lt
  go_enter Try.func16, Try.ntmps16
  go_wp2_with fail
  refine (copy_any g gb cap bs c _ (H.out.only0 o1).a).mono ?_
  rintro e w2 ⟨⟨g', gb', cap', rfl, hC2, hg', hgb'⟩, o2⟩
  have hP2 := (H.out.only0 o1).only0 o2
  go_wp2_with fail
  refine (same_any g' gb' cap' g gb cap bs bs c c _ hC2 hP2.a).mono ?_
  rw [show (bs == bs) = true from by simp]
  rintro e w' ⟨rfl, k2, rfl⟩
  have o3 := o2.drewN k2
  have hP3 := (H.out.only0 o1).only0 o3
  have hC3 := hC2.only ((Only.refl [] _).drewN k2) (by simp) (by simp)
  have hsz : w.heap.size + 1 ≤ g' ∧ w.heap.size + 1 ≤ gb' := by simp at hg' hgb'; omega
  have hgb : gb < w.heap.size := H.out.a.lt
  have hrgb : rgb < w.heap.size := H.out.r.lt
  go_wp2_with fail
  refine (set_good g gb cap bs c 0 305419896 _ hP3.a (by have := H.out.l0; omega) (by omega) H.out.c0 hc (by omega)).mono ?_
  rintro e w4 ⟨rfl, o4, hA4⟩
  have hC4 := hC3.only o4 (by simp; omega) (by simp; omega)
  have hR4 := hP3.r.only o4 (by have := H.out.n1; have := H.out.n3; simp; omega) (by have := H.out.n2; have := H.out.n4; simp; omega)
  have hl4 : (splice bs 0 (four 305419896)).length = bs.length := length_splice _ _ _ (by have := H.out.l0; simp [four]; omega)
  have HL := hide hl4
  clear hl4
  go_wp2_with fail
  refine (write_good g gb cap 1 1 _ _ 100 _ [9] _ (hA4.only ((Only.refl [] _).alloc _) (by simp) (by simp)) rfl (by have := HL.out; have := H.out.l0; simp; omega) (src_lit _ _)).mono ?_
  rintro e w5 ⟨rfl, o5, hA5⟩
  have hC5 := (hC4.only ((Only.refl [] _).alloc _) (by simp) (by simp)).only o5 (by simp; omega) (by simp; omega)
  have hR5 := (hR4.only ((Only.refl [] _).alloc _) (by simp) (by simp)).only o5 (by have := H.out.n3; simp; omega) (by have := H.out.n4; simp; omega)
  go_wp2_with fail
  go_ret3
  have hP := H.out
  have a2 := a1.trans o3 (by simp)
  have a3 := a2.trans o4 (by simp)
  have a4 := a3.alloc (.cells #[.int .u8 9] 5)
  exact ⟨a4.trans o5 (by simp), _, _, _, _, _, _, rfl, ⟨hC5, hR5, by omega, by omega, by omega, by omega, by have := hP.g1; omega, by have := hP.g1; omega, hP.g3, hP.g4, hP.c0, hP.l0⟩, by omega, .inr (by omega), .inr (by omega)⟩

end
end Go.Proofs.Ytdlmgijbejkgaaa
