/- Walks over arena's law: do: write. -/
import Derived.Test.YtdlmgijbejkgaaaAr11
import Derived.Test.YtdlmgijbejkgaaaMore
import Derived.Maps.AppendAt
import Derived.Laws.Concat
namespace Go.Proofs.Ytdlmgijbejkgaaa
open Go.RowKit
set_option linter.unusedVariables false
set_option linter.all false
set_option maxRecDepth 100000
attribute [local go_sem ↓] app_hide

theorem byte_info : (Try.prog.info? 5).map (fun i => (i.zero, i.size, i.bytes)) = some (some (.int .u8 0), 1, 1) := by kernel_rfl

/-- append(nil, data...): a slice of its own with the same bytes. -/
theorem run_fresh (dA : Option Addr) (dn dc : Nat) (ds : List UInt8) (w : World) (hl : ds.length = dn) (hn : dn ≤ 140737488351232) (hs : Src w dA ds) :
    ∃ (A1 : Option Addr) (c1 : Nat) (w1 : World), (AppH #[36, 36] 36 #[.slice none 0 0, .slice dA dn dc]).run Try.prog w = .ok (.slice A1 dn c1) w1 ∧ w1.ownsRow w.heap.size 5 1 (.slice A1 dn c1) dn (U8s ds) ∧ Only [] w w1 := by
  obtain ⟨i0, hi, hz0, hz1, hz2⟩ := info_parts byte_info
  rcases dA with _ | a
  · have h0 : ds = [] := by
      rcases Nat.eq_zero_or_pos ds.length with h0 | h0
      · exact List.eq_nil_of_length_eq_zero h0
      · obtain ⟨ad, he, _⟩ := hs h0
        cases he
    subst h0
    obtain rfl : dn = 0 := by simpa using hl.symm
    refine ⟨none, 0, w, ?_, ⟨rfl, .inl ⟨rfl, rfl⟩⟩, Only.refl _ _⟩
    unfold AppH Builtin.append_
    simp [Builtin.lenOf, Builtin.firstCells]
  · have hc : ∀ j u, (U8s ds)[j]? = some u → w.cell? (a.add j) = some u := by
      rcases Nat.eq_zero_or_pos ds.length with h0 | h0
      · intro j u hj
        rw [List.eq_nil_of_length_eq_zero h0] at hj
        simp [U8s] at hj
      · obtain ⟨ad', he, hc⟩ := hs h0
        cases he
        exact hc
    obtain ⟨v', w', hrun, h2, h3, h4, h5⟩ := run_append_own_at (P := Try.prog) w w.heap.size 36 36 5 i0 (.int .u8 0) 1 1 Try.underlying36 hi hz0 hz1 hz2 rfl (by omega) (.slice none 0 0) 0 [] ⟨rfl, .inl ⟨rfl, rfl⟩⟩ a dn dc (U8s ds) (by rw [length_U8s]; omega) hc (by
        intro u hu
        simp [U8s, U8] at hu
        obtain ⟨x, _, rfl⟩ := hu
        rfl) (by unfold maxLen; omega) (by omega) (Nat.le_refl _)
    simp only [Nat.zero_add, List.nil_append] at h2
    obtain ⟨A1, c1, rfl⟩ : ∃ A1 c1, v' = .slice A1 dn c1 := by
      rcases h2.2 with ⟨hv, hn⟩ | ⟨g, cap, cur, hv, _⟩
      · subst hn
        exact ⟨none, 0, hv⟩
      · exact ⟨_, _, hv⟩
    exact ⟨A1, c1, w', hrun, h2, (Only.refl _ w).grown h3 (fun k hk => by simp [Value.ownBlock] at hk)⟩
theorem run_add_one (ds : List UInt8) (w : World) (h : ds.length ≤ 140737488351232) : (Op.stringOp .add ⟨ds.toArray⟩ ⟨#[119]⟩).run Try.prog w = .ok (.string ⟨(ds ++ [119]).toArray⟩) w := by
  have e : (⟨#[119]⟩ : ByteArray) = ByteArray.mk [119].toArray := rfl
  rw [e, run_string_add_sum w _ _ (by simp [ByteArray.size]; omega), ByteArray.mk_append_mk]
theorem u8s_one (ds : List UInt8) : ∀ u ∈ U8s ds, u.oneCell' = true := by
  intro u hu
  simp [U8s, U8] at hu
  obtain ⟨x, _, rfl⟩ := hu
  rfl
theorem u8s_snoc (ds : List UInt8) : U8s ds ++ [.int .u8 119] = U8s (ds ++ [119]) := by simp [U8s, U8]

/-- own := append(append([]byte(nil), data...), 0x77). -/
theorem run_own (dA : Option Addr) (dn dc : Nat) (ds : List UInt8) (w : World) (hl : ds.length = dn) (hn : dn ≤ 140737488351232) (hs : Src w dA ds) :
    ∃ (A1 : Option Addr) (c1 : Nat) (w1 : World) (g' cap' : Nat) (w2 : World), (AppH #[36, 36] 36 #[.slice none 0 0, .slice dA dn dc]).run Try.prog w = .ok (.slice A1 dn c1) w1 ∧
      (AppH #[36, 36] 36 #[.slice A1 dn c1, .slice (some ⟨w1.heap.size, 0, none⟩) 1 1]).run Try.prog (w1.alloc (.cells #[.int .u8 119] 5)) = .ok (.slice (some ⟨g', 0, none⟩) (dn + 1) cap') w2 ∧
      Only [] w w2 ∧ w2.ownsRow w.heap.size 5 1 (.slice (some ⟨g', 0, none⟩) (dn + 1) cap') (dn + 1) (U8s (ds ++ [119])) := by
  obtain ⟨A1, c1, w1, hr1, h1, o1⟩ := run_fresh dA dn dc ds w hl hn hs
  obtain ⟨i0, hi, hz0, hz1, hz2⟩ := info_parts byte_info
  obtain ⟨g', cap', w2, hr2, h2, o2, hgg⟩ := append_at (P := Try.prog) (w1.alloc (.cells #[.int .u8 119] 5)) w.heap.size 36 36 5 i0 (.int .u8 0) 1 1 Try.underlying36 hi hz0 hz1 hz2 rfl (by omega) A1 dn c1 (U8s ds) (h1.alloc _)
    ⟨w1.heap.size, 0, none⟩ 1 1 [.int .u8 119] rfl (fun j u hj => by
      have := (Blk.new w1 5 #[.int .u8 119]).cell j
      rw [add_mk, Nat.zero_add, this, List.getElem?_toArray]
      exact hj) (by simp [Value.oneCell']) (.inl (by omega)) (by unfold maxLen; omega) (by omega) (by have := o1.size; simp; omega)
  rw [app_hide] at hr2
  rw [u8s_snoc] at h2
  exact ⟨A1, c1, w1, g', cap', w2, hr1, hr2, (o1.alloc _).trans o2 (fun x hx => .inr (own_ge h1 x hx).1), h2⟩

section
variable {B g gb cap rg rgb rcap : Nat} {bs : List UInt8} {c : Int} {w : World}
set_option maxHeartbeats 2000000 in
theorem do_write_bad (off : Int) (n : Int) (word : Nat) (dA : Option Addr) (dn dc : Nat) (ds : List UInt8) (h : Pr w B g gb cap rg rgb rcap bs c) (ho : ¬ (0 ≤ off ∧ off ≤ bs.length ∧ (dn : Int) ≤ bs.length - off)) (hl : ds.length = dn) (hn : dn ≤ 140737488351232) (hs : Src w dA ds) (hold : 0 < ds.length → ∀ ad, dA = some ad → ad.spot = none ∧ ad.block < B) :
    Calls Try.prog 16 #[.pointer (some ⟨g, 0, none⟩), .pointer (some ⟨rg, 0, none⟩), .agg #[.int .i64 4, .int .i64 off, .int .i64 n, .int .u32 word, .slice dA dn dc]] w (Did w B g gb rg rgb c) := by
  have H := hide h
  have hb := Blk.new w 47 #[.int .i64 4, .int .i64 off, .int .i64 n, .int .u32 word, .slice dA dn dc]
  have o1 := (Only.refl [] w).alloc (.cells #[.int .i64 4, .int .i64 off, .int .i64 n, .int .u32 word, .slice dA dn dc] 47)
  have hs1 : Src (w.alloc (.cells #[.int .i64 4, .int .i64 off, .int .i64 n, .int .u32 word, .slice dA dn dc] 47)) dA ds := hs.alloc _
  generalize hw1 : w.alloc (.cells #[.int .i64 4, .int .i64 off, .int .i64 n, .int .u32 word, .slice dA dn dc] 47) = w1 at hb o1 hs1
  have hsz1 : w1.heap.size = w.heap.size + 1 := by rw [← hw1]; simp
  obtain ⟨A1, c1, wa, g', cap', w2, hr1, hr2, o2, hown⟩ := run_own dA dn dc ds w1 hl hn hs1
  have e3 := run_str (P := Try.prog) (dst := 9) Try.underlying36 Try.underlying5 Try.underlying9 (dn + 1) cap' (by rw [List.length_append, hl]; rfl) (Src.own hown)
  have e4 := run_str (P := Try.prog) (dst := 9) Try.underlying36 Try.underlying5 Try.underlying9 dn dc hl (hs.only0 (o1.trans0 o2))
  have d3 := run_str (P := Try.prog) (dst := 9) Try.underlying36 Try.underlying5 Try.underlying9 (dn + 1) cap' (by rw [List.length_append, hl]; rfl) (Src.own hown).drew
  have d4 := run_str (P := Try.prog) (dst := 9) Try.underlying36 Try.underlying5 Try.underlying9 dn dc hl (hs.only0 (o1.trans0 o2)).drew
  have k1 : w1.cell? ⟨w.heap.size, 4, none⟩ = some (.slice dA dn dc) := by simpa using hb.cell 4
  have hb2 := hb.only o2 (by simp)
  have q1 : w2.cell? ⟨w.heap.size, 1, none⟩ = some (.int .i64 off) := by simpa using hb2.cell 1
  have q4 : w2.cell? ⟨w.heap.size, 4, none⟩ = some (.slice dA dn dc) := by simpa using hb2.cell 4
  have oo := o1.trans0 o2
  have hP2 := h.only0 oo
  have a2 : Only [g, gb, rg, rgb] w w2 := oo.mono (by simp)
  obtain ⟨cur, hcur, hcl, htk, hncap, hcmax, hge⟩ := own_block hown
  have hsx : Src w2 (some ⟨g', 0, none⟩) (ds ++ [119]) := Src.own hown
  have hsd : Src w2 (some ⟨g', 0, none⟩) ds := fun hp => by
    obtain ⟨ad, he, hc⟩ := hsx (by simp)
    refine ⟨ad, he, fun j u hj => hc j u ?_⟩
    have hjl : j < (U8s ds).length := (List.getElem?_eq_some_iff.1 hj).1
    rw [← u8s_snoc, List.getElem?_append_left hjl]
    exact hj
  have hsa : Src w2 dA ds := hs.only0 oo
  have hg1 := h.g1
  have hg2 := h.g2
  have hg3 := h.g3
  have hg4 := h.g4
  have hlt : g < w.heap.size := h.a.hdr.lt
  have hlt2 : rg < w.heap.size := h.r.hdr.lt
  have hlt3 : gb < w.heap.size := h.a.lt
  have hlt4 : rgb < w.heap.size := h.r.lt
  have hge' : w.heap.size + 1 ≤ g' := by omega
  have sl0 : (0 : Int) ≤ (dn : Int) := by omega
  have sl1 : (dn : Int) ≤ (cap' : Int) := by omega
  have sl2 : (dn : Int) ≤ ((dn + 1 : Nat) : Int) := by omega
  have HC := hide hcl
  have HS := hide hs
  have HD := hide hold
  have HL := hide hl
  have HT := hide htk
  have hadd := fun (W : World) => run_add_one ds W (by omega)
  clear h hs hold hown hcl hs1 hl htk
  subst hw1
  have HO := hide ho
  clear ho
  go_enter Try.func16, Try.ntmps16
  go_wp2_with fail
  go_region_held3 (fun W => W.cell? ⟨w.heap.size, 1, none⟩ = some (.int .i64 off) ∧ W.cell? ⟨w.heap.size, 4, none⟩ = some (.slice dA dn dc) ∧ (convert 36 9 (.slice (some ⟨g', 0, none⟩) (dn + 1) cap')).run Try.prog W = .ok (.string ⟨(ds ++ [119]).toArray⟩) W ∧ (convert 36 9 (.slice dA dn dc)).run Try.prog W = .ok (.string ⟨ds.toArray⟩) W) (first | go_keep | exact ⟨q1, q4, e3, e4⟩ | exact ⟨q1, q4, d3, d4⟩) (first
    | (go_at_call 20; refine (write_bad g gb cap bs c off _ _ _ _ (hP2.only0 ((Only.refl [] _).drewN _)).a HO.out).mono ?_; rintro e w3 ⟨rfl, o3⟩; have oE := ((Only.refl [] w2).drewN _).trans0 o3; have hb3 := hb2.only oE (by simp); have q1 : w3.cell? ⟨w.heap.size, 1, none⟩ = some (.int .i64 off) := (by simpa using hb3.cell 1); have q4 : w3.cell? ⟨w.heap.size, 4, none⟩ = some (.slice dA dn dc) := (by simpa using hb3.cell 4); have hPE := hP2.only0 oE; have aE := a2.trans0 oE; have e3 := run_str (P := Try.prog) (dst := 9) Try.underlying36 Try.underlying5 Try.underlying9 (dn + 1) cap' (by rw [List.length_append, HL.out]; rfl) (hsx.only0 oE); have e4 := run_str (P := Try.prog) (dst := 9) Try.underlying36 Try.underlying5 Try.underlying9 dn dc HL.out (hsa.only0 oE); have hcurE := hcur.only oE (by simp))
    | (go_at_call 32; refine (rwrite_bad rg rgb rcap bs c off _ _ _ _ (by first | exact hPE.r | exact (hPE.only0 ((Only.refl [] _).drewN _)).r) HO.out).mono ?_; rintro e w' ⟨rfl, rfl⟩)
    | (go_at_call 9; refine (num_any _ _).mono ?_; rintro e w' ⟨rfl, rfl⟩))
  go_wp2_with fail
  clear e3 e4
  go_loopw [21] (fun i wr => ∃ (k : Nat) (cur' : List Value), k ≤ dn + 1 ∧ i = .int .i64 k ∧ cur'.length = cap' ∧ Blk wr g' 5 cur'.toArray ∧ Only [g'] w3 wr) (fun i _ => dn + 1 - (intOf i).toNat)
  case atStart => exact ⟨0, cur, Nat.zero_le _, rfl, HC.out, hcurE, Only.refl _ _⟩
  case round =>
    obtain ⟨k, cur', hk, rfl, hcl, hB, hO⟩ := hrel
    have HX := hide hcl
    clear hcl
    by_cases hlt : k < dn + 1
    · have i1 : (k : Int) < ((dn + 1 : Nat) : Int) := by omega
      have i0 : (0 : Int) ≤ (k : Int) := by omega
      have hfz := hB.frozen k
      obtain ⟨old, hc0⟩ : ∃ old, wr.cell? ⟨g', k, none⟩ = some old := ⟨_, by rw [hB.cell, List.getElem?_toArray, List.getElem?_eq_getElem (by rw [HX.out]; omega)]⟩
      go_wp2_with fail
      go_roundw
      case rel => exact ⟨k + 1, cur'.set k (.int .u8 102), by omega, by go_num, by rw [List.length_set, HX.out], by
        have := hB.set_ k (.int .u8 102)
        rwa [List.setIfInBounds_toArray] at this, hO.setCell (.inl (by simp)) _⟩
      case measure => simp [intOf]; omega
    · obtain rfl : k = dn + 1 := by omega
      go_wp2_with fail
      go_ret3
      have hP4 := hPE.only hO (by simp; omega) (by simp; omega) (by simp; omega) (by simp; omega)
      exact ⟨aE.trans hO (fun x hx => .inr (by simp at hx; subst hx; omega)), _, _, _, _, _, _, rfl, hP4, by omega, .inl rfl, .inl rfl⟩

set_option maxHeartbeats 2000000 in
theorem do_write_good (off : Nat) (n : Int) (word : Nat) (dA : Option Addr) (dn dc : Nat) (ds : List UInt8) (h : Pr w B g gb cap rg rgb rcap bs c) (ho : off + dn ≤ bs.length) (hl : ds.length = dn) (hn : dn ≤ 140737488351232) (hs : Src w dA ds) (hold : 0 < ds.length → ∀ ad, dA = some ad → ad.spot = none ∧ ad.block < B) :
    Calls Try.prog 16 #[.pointer (some ⟨g, 0, none⟩), .pointer (some ⟨rg, 0, none⟩), .agg #[.int .i64 4, .int .i64 off, .int .i64 n, .int .u32 word, .slice dA dn dc]] w (Did w B g gb rg rgb c) := by
  have H := hide h
  have hb := Blk.new w 47 #[.int .i64 4, .int .i64 off, .int .i64 n, .int .u32 word, .slice dA dn dc]
  have o1 := (Only.refl [] w).alloc (.cells #[.int .i64 4, .int .i64 off, .int .i64 n, .int .u32 word, .slice dA dn dc] 47)
  have hs1 : Src (w.alloc (.cells #[.int .i64 4, .int .i64 off, .int .i64 n, .int .u32 word, .slice dA dn dc] 47)) dA ds := hs.alloc _
  generalize hw1 : w.alloc (.cells #[.int .i64 4, .int .i64 off, .int .i64 n, .int .u32 word, .slice dA dn dc] 47) = w1 at hb o1 hs1
  have hsz1 : w1.heap.size = w.heap.size + 1 := by rw [← hw1]; simp
  obtain ⟨A1, c1, wa, g', cap', w2, hr1, hr2, o2, hown⟩ := run_own dA dn dc ds w1 hl hn hs1
  have e3 := run_str (P := Try.prog) (dst := 9) Try.underlying36 Try.underlying5 Try.underlying9 (dn + 1) cap' (by rw [List.length_append, hl]; rfl) (Src.own hown)
  have e4 := run_str (P := Try.prog) (dst := 9) Try.underlying36 Try.underlying5 Try.underlying9 dn dc hl (hs.only0 (o1.trans0 o2))
  have d3 := run_str (P := Try.prog) (dst := 9) Try.underlying36 Try.underlying5 Try.underlying9 (dn + 1) cap' (by rw [List.length_append, hl]; rfl) (Src.own hown).drew
  have d4 := run_str (P := Try.prog) (dst := 9) Try.underlying36 Try.underlying5 Try.underlying9 dn dc hl (hs.only0 (o1.trans0 o2)).drew
  have k1 : w1.cell? ⟨w.heap.size, 4, none⟩ = some (.slice dA dn dc) := by simpa using hb.cell 4
  have hb2 := hb.only o2 (by simp)
  have q1 : w2.cell? ⟨w.heap.size, 1, none⟩ = some (.int .i64 off) := by simpa using hb2.cell 1
  have q4 : w2.cell? ⟨w.heap.size, 4, none⟩ = some (.slice dA dn dc) := by simpa using hb2.cell 4
  have oo := o1.trans0 o2
  have hP2 := h.only0 oo
  have a2 : Only [g, gb, rg, rgb] w w2 := oo.mono (by simp)
  obtain ⟨cur, hcur, hcl, htk, hncap, hcmax, hge⟩ := own_block hown
  have hsx : Src w2 (some ⟨g', 0, none⟩) (ds ++ [119]) := Src.own hown
  have hsd : Src w2 (some ⟨g', 0, none⟩) ds := fun hp => by
    obtain ⟨ad, he, hc⟩ := hsx (by simp)
    refine ⟨ad, he, fun j u hj => hc j u ?_⟩
    have hjl : j < (U8s ds).length := (List.getElem?_eq_some_iff.1 hj).1
    rw [← u8s_snoc, List.getElem?_append_left hjl]
    exact hj
  have hsa : Src w2 dA ds := hs.only0 oo
  have hg1 := h.g1
  have hg2 := h.g2
  have hg3 := h.g3
  have hg4 := h.g4
  have hlt : g < w.heap.size := h.a.hdr.lt
  have hlt2 : rg < w.heap.size := h.r.hdr.lt
  have hlt3 : gb < w.heap.size := h.a.lt
  have hlt4 : rgb < w.heap.size := h.r.lt
  have hge' : w.heap.size + 1 ≤ g' := by omega
  have sl0 : (0 : Int) ≤ (dn : Int) := by omega
  have sl1 : (dn : Int) ≤ (cap' : Int) := by omega
  have sl2 : (dn : Int) ≤ ((dn + 1 : Nat) : Int) := by omega
  have HC := hide hcl
  have HS := hide hs
  have HD := hide hold
  have HL := hide hl
  have HT := hide htk
  have hadd := fun (W : World) => run_add_one ds W (by omega)
  clear h hs hold hown hcl hs1 hl htk
  subst hw1
  have HO := hide ho
  go_enter Try.func16, Try.ntmps16
  go_wp2_with fail
  go_region_held3 (fun W => W.cell? ⟨w.heap.size, 1, none⟩ = some (.int .i64 off) ∧ W.cell? ⟨w.heap.size, 4, none⟩ = some (.slice dA dn dc) ∧ (convert 36 9 (.slice (some ⟨g', 0, none⟩) (dn + 1) cap')).run Try.prog W = .ok (.string ⟨(ds ++ [119]).toArray⟩) W ∧ (convert 36 9 (.slice dA dn dc)).run Try.prog W = .ok (.string ⟨ds.toArray⟩) W) (first | go_keep | exact ⟨q1, q4, e3, e4⟩ | exact ⟨q1, q4, d3, d4⟩) (first
    | (go_at_call 20; refine (write_good g gb cap dn cap' bs c off _ ds _ (hP2.only0 ((Only.refl [] _).drewN _)).a HL.out HO.out (hsd.drewN _)).mono ?_; rintro e w3 ⟨rfl, o3, hA3⟩; have oE := ((Only.refl [gb] w2).drewN _).trans o3 (by simp); have hb3 := hb2.only oE (by simp; omega); have q1 : w3.cell? ⟨w.heap.size, 1, none⟩ = some (.int .i64 off) := (by simpa using hb3.cell 1); have q4 : w3.cell? ⟨w.heap.size, 4, none⟩ = some (.slice dA dn dc) := (by simpa using hb3.cell 4); have hR3 := hP2.r.only oE (by have := hP2.n3; simp; omega) (by have := hP2.n4; simp; omega); have a3 : Only [g, gb, rg, rgb] w w3 := a2.trans oE (by simp); have hsa3 := hsa.only oE (fun ad had hp => by have := (HD.out hp ad had).2; simp; omega); have hsx3 := hsx.only oE (fun ad had _ => by obtain rfl : (⟨g', 0, none⟩ : Addr) = ad := (by simpa using had); simp; omega); have e3 := run_str (P := Try.prog) (dst := 9) Try.underlying36 Try.underlying5 Try.underlying9 (dn + 1) cap' (by rw [List.length_append, HL.out]; rfl) hsx3; have e4 := run_str (P := Try.prog) (dst := 9) Try.underlying36 Try.underlying5 Try.underlying9 dn dc HL.out hsa3; have hcur3 := hcur.only oE (by simp; omega))
    | (go_at_call 32; refine (rwrite_good rg rgb rcap dn dc bs c off dA ds _ hR3 HL.out HO.out hsa3 (fun hp ad had => ⟨(HD.out hp ad had).1, by have := (HD.out hp ad had).2; omega⟩)).mono ?_; rintro e w4 ⟨rfl, o4, hR4⟩; have hb4 := hb3.only o4 (by simp; omega); have q1 : w4.cell? ⟨w.heap.size, 1, none⟩ = some (.int .i64 off) := (by simpa using hb4.cell 1); have q4 : w4.cell? ⟨w.heap.size, 4, none⟩ = some (.slice dA dn dc) := (by simpa using hb4.cell 4); have hA4 := hA3.only o4 (by have := hP2.n2; simp; omega) (by have := hP2.n4; simp; omega); have aE : Only [g, gb, rg, rgb] w w4 := a3.trans o4 (by simp); have e3 := run_str (P := Try.prog) (dst := 9) Try.underlying36 Try.underlying5 Try.underlying9 (dn + 1) cap' (by rw [List.length_append, HL.out]; rfl) (hsx3.only o4 (fun ad had _ => by obtain rfl : (⟨g', 0, none⟩ : Addr) = ad := (by simpa using had); simp; omega)); have e4 := run_str (P := Try.prog) (dst := 9) Try.underlying36 Try.underlying5 Try.underlying9 dn dc HL.out (hsa3.only o4 (fun ad had hp => by have := (HD.out hp ad had).2; simp; omega)); have hcurE := hcur3.only o4 (by simp; omega); have hls : (splice bs off ds).length = bs.length := length_splice _ _ _ (by have := HL.out; have := HO.out; omega); have hPE : Pr w4 B g gb cap rg rgb rcap (splice bs off ds) c := ⟨hA4, hR4, hP2.n1, hP2.n2, hP2.n3, hP2.n4, hP2.g1, hP2.g2, hP2.g3, hP2.g4, hP2.c0, by have := hP2.l0; omega⟩)
    | (go_at_call 9; refine (num_any _ _).mono ?_; rintro e w' ⟨rfl, rfl⟩))
  go_wp2_with fail
  clear e3 e4
  go_loopw [21] (fun i wr => ∃ (k : Nat) (cur' : List Value), k ≤ dn + 1 ∧ i = .int .i64 k ∧ cur'.length = cap' ∧ Blk wr g' 5 cur'.toArray ∧ Only [g'] w4 wr) (fun i _ => dn + 1 - (intOf i).toNat)
  case atStart => exact ⟨0, cur, Nat.zero_le _, rfl, HC.out, hcurE, Only.refl _ _⟩
  case round =>
    obtain ⟨k, cur', hk, rfl, hcl, hB, hO⟩ := hrel
    have HX := hide hcl
    clear hcl
    by_cases hlt : k < dn + 1
    · have i1 : (k : Int) < ((dn + 1 : Nat) : Int) := by omega
      have i0 : (0 : Int) ≤ (k : Int) := by omega
      have hfz := hB.frozen k
      obtain ⟨old, hc0⟩ : ∃ old, wr.cell? ⟨g', k, none⟩ = some old := ⟨_, by rw [hB.cell, List.getElem?_toArray, List.getElem?_eq_getElem (by rw [HX.out]; omega)]⟩
      go_wp2_with fail
      go_roundw
      case rel => exact ⟨k + 1, cur'.set k (.int .u8 102), by omega, by go_num, by rw [List.length_set, HX.out], by
        have := hB.set_ k (.int .u8 102)
        rwa [List.setIfInBounds_toArray] at this, hO.setCell (.inl (by simp)) _⟩
      case measure => simp [intOf]; omega
    · obtain rfl : k = dn + 1 := by omega
      go_wp2_with fail
      go_ret3
      have hP4 := hPE.only hO (by simp; omega) (by simp; omega) (by simp; omega) (by simp; omega)
      exact ⟨aE.trans hO (fun x hx => .inr (by simp at hx; subst hx; omega)), _, _, _, _, _, _, rfl, hP4, by omega, .inl rfl, .inl rfl⟩

end
end Go.Proofs.Ytdlmgijbejkgaaa

