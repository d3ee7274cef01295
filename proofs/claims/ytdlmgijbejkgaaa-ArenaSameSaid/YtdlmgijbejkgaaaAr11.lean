/- Walks over arena's law: do: set, read. -/
import Derived.Test.YtdlmgijbejkgaaaAr10
import Derived.Deep.RegionHeld3
namespace Go.Proofs.Ytdlmgijbejkgaaa
open Go.RowKit
set_option linter.unusedVariables false
set_option linter.all false
set_option maxRecDepth 100000
section
variable {B g gb cap rg rgb rcap : Nat} {bs : List UInt8} {c : Int} {w : World}
set_option maxHeartbeats 1000000 in
theorem do_set_bad (off n : Int) (word : Nat) (dA : Option Addr) (dn dc : Nat) (h : Pr w B g gb cap rg rgb rcap bs c) (ho : ¬ (0 ≤ off ∧ off < bs.length ∧ off % 4 = 0)) (hlo : -9223372036854775808 ≤ off):
    Calls Try.prog 16 #[.pointer (some ⟨g, 0, none⟩), .pointer (some ⟨rg, 0, none⟩), .agg #[.int .i64 2, .int .i64 off, .int .i64 n, .int .u32 word, .slice dA dn dc]] w (Did w B g gb rg rgb c) := by
  have H := hide h
  have HO := hide ho
  clear h ho
  have hb := Blk.new w 47 #[.int .i64 2, .int .i64 off, .int .i64 n, .int .u32 word, .slice dA dn dc]
  have o1 := (Only.refl [] w).alloc (.cells #[.int .i64 2, .int .i64 off, .int .i64 n, .int .u32 word, .slice dA dn dc] 47)
  have a1 : Only [g, gb, rg, rgb] w (w.alloc (.cells #[.int .i64 2, .int .i64 off, .int .i64 n, .int .u32 word, .slice dA dn dc] 47)) := (Only.refl _ w).alloc _
  have hlt : g < w.heap.size := H.out.a.hdr.lt
  have hlt2 : rg < w.heap.size := H.out.r.hdr.lt
  go_enter Try.func16, Try.ntmps16
  go_wp2_with fail
  go_region_held3 (fun W => W.cell? ⟨w.heap.size, 1, none⟩ = some (.int .i64 off) ∧ W.cell? ⟨w.heap.size, 3, none⟩ = some (.int .u32 word)) (first | go_keep | exact ⟨q1, q3⟩) (first
    | (go_at_call 11; refine (set_bad g gb cap bs c off word _ ((H.out.only0 o1).only0 (by first | exact Only.refl _ _ | exact (Only.refl [] _).drewN _)).a HO.out hlo).mono ?_; rintro e w2 ⟨rfl, o2⟩; have hb2 := hb.only ((((Only.refl [] _).drewN _).trans0 o2)) (by simp); have q1 : w2.cell? ⟨w.heap.size, 1, none⟩ = some (.int .i64 off) := (by simpa using hb2.cell 1); have q3 : w2.cell? ⟨w.heap.size, 3, none⟩ = some (.int .u32 word) := (by simpa using hb2.cell 3); have hP2 := ((H.out.only0 o1).only0 ((Only.refl [] _).drewN _)).only0 o2; have a2 := (a1.drewN _).trans0 o2)
    | (go_at_call 30; refine (rset_bad rg rgb rcap bs c off word _ (by first | exact hP2.r | exact (hP2.only0 ((Only.refl [] _).drewN _)).r) HO.out hlo).mono ?_; rintro e w' ⟨rfl, rfl⟩)
    | (go_at_call 9; refine (num_any _ _).mono ?_; rintro e w' ⟨rfl, rfl⟩))
  go_wp2
  go_ret3
  exact ⟨a2, _, _, _, _, _, _, rfl, hP2, by omega, .inl rfl, .inl rfl⟩

set_option maxHeartbeats 1000000 in
theorem do_set_good (off : Nat) (n : Int) (word : Nat) (dA : Option Addr) (dn dc : Nat) (h : Pr w B g gb cap rg rgb rcap bs c) (ho : off < bs.length) (h4 : off % 4 = 0) (hc : c < 1000000) (hv : word < 4294967296):
    Calls Try.prog 16 #[.pointer (some ⟨g, 0, none⟩), .pointer (some ⟨rg, 0, none⟩), .agg #[.int .i64 2, .int .i64 off, .int .i64 n, .int .u32 word, .slice dA dn dc]] w (Did w B g gb rg rgb c) := by
  have H := hide h
  have H4 := hide h4
  clear h h4
  have hb := Blk.new w 47 #[.int .i64 2, .int .i64 off, .int .i64 n, .int .u32 word, .slice dA dn dc]
  have o1 := (Only.refl [] w).alloc (.cells #[.int .i64 2, .int .i64 off, .int .i64 n, .int .u32 word, .slice dA dn dc] 47)
  have a1 : Only [g, gb, rg, rgb] w (w.alloc (.cells #[.int .i64 2, .int .i64 off, .int .i64 n, .int .u32 word, .slice dA dn dc] 47)) := (Only.refl _ w).alloc _
  have hlt : g < w.heap.size := H.out.a.hdr.lt
  have hlt2 : rg < w.heap.size := H.out.r.hdr.lt
  go_enter Try.func16, Try.ntmps16
  go_wp2_with fail
  go_region_held3 (fun W => W.cell? ⟨w.heap.size, 1, none⟩ = some (.int .i64 off) ∧ W.cell? ⟨w.heap.size, 3, none⟩ = some (.int .u32 word)) (first | go_keep | exact ⟨q1, q3⟩) (first
    | (go_at_call 11; refine (set_good g gb cap bs c off word _ ((H.out.only0 o1).only0 (by first | exact Only.refl _ _ | exact (Only.refl [] _).drewN _)).a ho H4.out H.out.c0 hc hv).mono ?_; rintro e w2 ⟨rfl, o2, hA2⟩; have hgb := H.out.a.lt; have hb2 := hb.only ((((Only.refl [g, gb] _).drewN _).trans o2 (by simp))) (by simp; omega); have q1 : w2.cell? ⟨w.heap.size, 1, none⟩ = some (.int .i64 off) := (by simpa using hb2.cell 1); have q3 : w2.cell? ⟨w.heap.size, 3, none⟩ = some (.int .u32 word) := (by simpa using hb2.cell 3); have hR2 := ((H.out.only0 o1).only0 ((Only.refl [] _).drewN _)).r.only o2 (by have := H.out.n1; have := H.out.n3; simp; omega) (by have := H.out.n2; have := H.out.n4; simp; omega); have a2 := (a1.drewN _).trans o2 (by simp))
    | (go_at_call 30; refine (rset_good rg rgb rcap bs c off word _ (by first | exact hR2 | exact hR2.only ((Only.refl [] _).drewN _) (by simp) (by simp)) ho H4.out H.out.c0 hc hv).mono ?_; rintro e w3 ⟨rfl, o3, hR3⟩; have hA3 := hA2.only o3 (by have := H.out.n1; have := H.out.n2; simp; omega) (by have := H.out.n3; have := H.out.n4; simp; omega); have a3 := a2.trans o3 (by simp); have hrgb := H.out.r.lt; have hb3 := hb2.only o3 (by simp; omega); have q1 : w3.cell? ⟨w.heap.size, 1, none⟩ = some (.int .i64 off) := (by simpa using hb3.cell 1); have q3 : w3.cell? ⟨w.heap.size, 3, none⟩ = some (.int .u32 word) := (by simpa using hb3.cell 3))
    | (go_at_call 9; refine (num_any _ _).mono ?_; rintro e w' ⟨rfl, rfl⟩))
  go_wp2
  go_ret3
  have hP := H.out
  have hls : (splice bs off (four word)).length = bs.length := length_splice _ _ _ (by have := H4.out; have := hP.a.d8; simp [four]; omega)
  exact ⟨a3, _, _, _, _, _, _, rfl, ⟨hA3, hR3, hP.n1, hP.n2, hP.n3, hP.n4, hP.g1, hP.g2, hP.g3, hP.g4, by have := hP.c0; omega, by have := hP.l0; omega⟩, Int.le_refl _, .inl rfl, .inl rfl⟩

set_option maxHeartbeats 1000000 in
theorem do_read_bad (off n : Int) (word : Nat) (dA : Option Addr) (dn dc : Nat) (h : Pr w B g gb cap rg rgb rcap bs c) (ho : ¬ (0 ≤ off ∧ 0 ≤ n ∧ off ≤ bs.length ∧ n ≤ bs.length - off)):
    Calls Try.prog 16 #[.pointer (some ⟨g, 0, none⟩), .pointer (some ⟨rg, 0, none⟩), .agg #[.int .i64 3, .int .i64 off, .int .i64 n, .int .u32 word, .slice dA dn dc]] w (Did w B g gb rg rgb c) := by
  have H := hide h
  have HO := hide ho
  clear h ho
  have hb := Blk.new w 47 #[.int .i64 3, .int .i64 off, .int .i64 n, .int .u32 word, .slice dA dn dc]
  have o1 := (Only.refl [] w).alloc (.cells #[.int .i64 3, .int .i64 off, .int .i64 n, .int .u32 word, .slice dA dn dc] 47)
  have a1 : Only [g, gb, rg, rgb] w (w.alloc (.cells #[.int .i64 3, .int .i64 off, .int .i64 n, .int .u32 word, .slice dA dn dc] 47)) := (Only.refl _ w).alloc _
  have hlt : g < w.heap.size := H.out.a.hdr.lt
  have hlt2 : rg < w.heap.size := H.out.r.hdr.lt
  go_enter Try.func16, Try.ntmps16
  go_wp2_with fail
  refine (read_bad g gb cap bs c off n _ (H.out.only0 o1).a HO.out).mono ?_
  rintro e w2 ⟨rfl, o2⟩
  have hb2 := hb.only o2 (by simp)
  have q1 : w2.cell? ⟨w.heap.size, 1, none⟩ = some (.int .i64 off) := by simpa using hb2.cell 1
  have q2 : w2.cell? ⟨w.heap.size, 2, none⟩ = some (.int .i64 n) := by simpa using hb2.cell 2
  have hP2 := (H.out.only0 o1).only0 o2
  have a2 := a1.trans o2 (by simp)
  go_wp2_with fail
  refine (rread_bad rg rgb rcap bs c off n _ hP2.r HO.out).mono ?_
  rintro e w' ⟨rfl, rfl⟩
  have e1 := run_str (P := Try.prog) (dst := 9) Try.underlying36 Try.underlying5 Try.underlying9 0 0 rfl (Src.nil w2 none)
  go_wp2_with (go_at_call 9; refine (num_any _ _).mono ?_; rintro e w' ⟨rfl, rfl⟩)
  go_loopw [18] (fun i wr => i = .int .i64 0 ∧ w2 = wr) (fun i _ => 0)
  case atStart => exact ⟨rfl, rfl⟩
  case round =>
    obtain ⟨rfl, rfl⟩ := hrel
    go_wp2_with fail
    go_ret3
    exact ⟨a2, _, _, _, _, _, _, rfl, hP2, by omega, .inl rfl, .inl rfl⟩

set_option maxHeartbeats 1000000 in
theorem do_read_good (off n : Nat) (word : Nat) (dA : Option Addr) (dn dc : Nat) (h : Pr w B g gb cap rg rgb rcap bs c) (hfit : off + n ≤ bs.length):
    Calls Try.prog 16 #[.pointer (some ⟨g, 0, none⟩), .pointer (some ⟨rg, 0, none⟩), .agg #[.int .i64 3, .int .i64 off, .int .i64 n, .int .u32 word, .slice dA dn dc]] w (Did w B g gb rg rgb c) := by
  have H := hide h
  clear h
  have hb := Blk.new w 47 #[.int .i64 3, .int .i64 off, .int .i64 n, .int .u32 word, .slice dA dn dc]
  have o1 := (Only.refl [] w).alloc (.cells #[.int .i64 3, .int .i64 off, .int .i64 n, .int .u32 word, .slice dA dn dc] 47)
  have a1 : Only [g, gb, rg, rgb] w (w.alloc (.cells #[.int .i64 3, .int .i64 off, .int .i64 n, .int .u32 word, .slice dA dn dc] 47)) := (Only.refl _ w).alloc _
  have hlt : g < w.heap.size := H.out.a.hdr.lt
  have hlt2 : rg < w.heap.size := H.out.r.hdr.lt
  go_enter Try.func16, Try.ntmps16
  go_wp2_with fail
  refine (read_good g gb cap bs c off n _ (H.out.only0 o1).a hfit).mono ?_
  rintro e w2 ⟨⟨g', cap', rfl, hown⟩, o2⟩
  have hb2 := hb.only o2 (by simp)
  have q1 : w2.cell? ⟨w.heap.size, 1, none⟩ = some (.int .i64 off) := by simpa using hb2.cell 1
  have q2 : w2.cell? ⟨w.heap.size, 2, none⟩ = some (.int .i64 n) := by simpa using hb2.cell 2
  have hP2 := (H.out.only0 o1).only0 o2
  have a2 := a1.trans o2 (by simp)
  obtain ⟨cur, hcur, hcl, _, hncap, hcmax, hge⟩ := own_block hown
  have hs1 := Src.own hown
  have HC := hide hcl
  clear hcl hown
  have hge : w.heap.size + 1 ≤ g' := by simpa using hge
  go_wp2_with fail
  refine (rread_good rg rgb rcap bs c off n _ hP2.r hfit).mono ?_
  rintro e w3 ⟨⟨a, cap'', rfl, hs2⟩, o3⟩
  have hP3 := hP2.only0 o3
  have a3 := a2.trans o3 (by simp)
  have hB3 := hcur.only o3 (by simp)
  have hs3 := hs1.only0 o3
  have hlt3 : gb < w.heap.size := H.out.a.lt
  have hn6 : n ≤ 65536 := by have := H.out.a.max; omega
  have hlt4 : rgb < w.heap.size := H.out.r.lt
  have hln : ((bs.drop off).take n).length = n := by simp; omega
  have e1 := run_str (P := Try.prog) (dst := 9) Try.underlying36 Try.underlying5 Try.underlying9 n cap' hln hs3
  have e2 := run_str (P := Try.prog) (dst := 9) Try.underlying36 Try.underlying5 Try.underlying9 n cap'' hln hs2
  have HLN := hide hln
  clear hln hs1 hs2 hs3
  go_wp2_with (go_at_call 9; refine (num_any _ _).mono ?_; rintro e w' ⟨rfl, rfl⟩)
  clear e1 e2
  go_loopw [18] (fun i wr => ∃ (k : Nat) (cur' : List Value), k ≤ n ∧ i = .int .i64 k ∧ cur'.length = cap' ∧ Blk wr g' 5 cur'.toArray ∧ Only [g'] w3 wr) (fun i _ => n - (intOf i).toNat)
  case atStart => exact ⟨0, cur, Nat.zero_le _, rfl, HC.out, hB3, Only.refl _ _⟩
  case round =>
    obtain ⟨k, cur', hk, rfl, hcl, hB, hO⟩ := hrel
    have HX := hide hcl
    clear hcl
    by_cases hlt : k < n
    · have i1 : (k : Int) < (n : Int) := by omega
      have i0 : (0 : Int) ≤ (k : Int) := by omega
      have hfz := hB.frozen k
      obtain ⟨old, hc0⟩ : ∃ old, wr.cell? ⟨g', k, none⟩ = some old := ⟨_, by rw [hB.cell, List.getElem?_toArray, List.getElem?_eq_getElem (by rw [HX.out]; omega)]⟩
      go_wp2_with fail
      go_roundw
      case rel => exact ⟨k + 1, cur'.set k (.int .u8 102), by omega, by go_num, by rw [List.length_set, HX.out], by
        have := hB.set_ k (.int .u8 102)
        rwa [List.setIfInBounds_toArray] at this, hO.setCell (.inl (by simp)) _⟩
      case measure => simp [intOf]; omega
    · go_wp2_with fail
      go_ret3
      have hP4 := hP3.only hO (by simp; omega) (by simp; omega) (by simp; omega) (by simp; omega)
      exact ⟨a3.trans hO (fun x hx => .inr (by simp at hx; subst hx; omega)), _, _, _, _, _, _, rfl, hP4, by omega, .inl rfl, .inl rfl⟩

end
end Go.Proofs.Ytdlmgijbejkgaaa
