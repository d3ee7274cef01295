/- Walks over the reference of arena: Get refused, Set, Read, Write, Reset, Copy, Same. -/
import Derived.Test.YtdlmgijbejkgaaaAr5
namespace Go.Proofs.Ytdlmgijbejkgaaa
open Go.RowKit
set_option linter.unusedVariables false
set_option linter.unusedSimpArgs false

theorem rget_bad (g gb cap : Nat) (bs : List UInt8) (c off : Int) (w : World) (h : RAr w g gb cap bs c) (hn : ¬ (0 ≤ off ∧ off < bs.length ∧ off % 4 = 0)) (hlo : -9223372036854775808 ≤ off) :
    Calls Try.prog 29 #[.pointer (some ⟨g, 0, none⟩), .int .i64 off] w fun e w' => e = .returned (.tuple #[.int .u32 0, .int .i64 2]) ∧ w = w' := by
  have k0 : w.cell? ⟨g, 0, none⟩ = some (.slice (some ⟨gb, 0, none⟩) bs.length cap) := by simpa using h.hdr.cell 0
  by_cases h0 : off < 0
  · clear hn
    go_enter Try.func29, Try.ntmps29
    go_wp2
    go_ret2
    exact ⟨rfl, rfl⟩
  · by_cases h4 : off % 4 = 0
    · have c4 : (off % 4 == 0) = true := by simp; omega
      have c4' : (off % 4 != 0) = false := by simp; omega
      have h1 : (bs.length : Int) ≤ off := by omega
      clear hn h4
      go_enter Try.func29, Try.ntmps29
      go_wp2
      go_ret2
      exact ⟨rfl, rfl⟩
    · have c4 : (off % 4 == 0) = false := by simp; omega
      have c4' : (off % 4 != 0) = true := by simp; omega
      clear hn h4
      go_enter Try.func29, Try.ntmps29
      go_wp2
      go_ret2
      exact ⟨rfl, rfl⟩

theorem rset_bad (g gb cap : Nat) (bs : List UInt8) (c off v : Int) (w : World) (h : RAr w g gb cap bs c) (hn : ¬ (0 ≤ off ∧ off < bs.length ∧ off % 4 = 0)) (hlo : -9223372036854775808 ≤ off) :
    Calls Try.prog 30 #[.pointer (some ⟨g, 0, none⟩), .int .i64 off, .int .u32 v] w fun e w' => e = .returned (.int .i64 2) ∧ w = w' := by
  have k0 : w.cell? ⟨g, 0, none⟩ = some (.slice (some ⟨gb, 0, none⟩) bs.length cap) := by simpa using h.hdr.cell 0
  by_cases h0 : off < 0
  · clear hn
    go_enter Try.func30, Try.ntmps30
    go_wp2
    go_ret
    exact ⟨rfl, rfl⟩
  · by_cases h4 : off % 4 = 0
    · have c4 : (off % 4 == 0) = true := by simp; omega
      have c4' : (off % 4 != 0) = false := by simp; omega
      have h1 : (bs.length : Int) ≤ off := by omega
      clear hn h4
      go_enter Try.func30, Try.ntmps30
      go_wp2
      go_ret
      exact ⟨rfl, rfl⟩
    · have c4 : (off % 4 == 0) = false := by simp; omega
      have c4' : (off % 4 != 0) = true := by simp; omega
      clear hn h4
      go_enter Try.func30, Try.ntmps30
      go_wp2
      go_ret
      exact ⟨rfl, rfl⟩

theorem rget_good (g gb cap : Nat) (bs : List UInt8) (c : Int) (off : Nat) (w : World) (h : RAr w g gb cap bs c) (ho : off < bs.length) (h4 : off % 4 = 0) (hc0 : 0 ≤ c) (hc1 : c < 1000000) :
    Calls Try.prog 29 #[.pointer (some ⟨g, 0, none⟩), .int .i64 off] w fun e w' => e = .returned (.tuple #[.int .u32 (word bs off), .int .i64 0]) ∧ Only [g] w w' ∧ RAr w' g gb cap bs (c + 1) := by
  have hd8 := h.d8
  refine (rget_core g gb cap bs.length c off _ _ _ _ w (by simpa using h.hdr.cell 0) (by simpa using h.hdr.cell 1) (h.hdr.frozen 1) h.hdr.lt h.lt h.ne (by omega) h.max h4 hc0 hc1
    (h.cell off ho) (h.cell (off + 1) (by omega)) (h.cell (off + 2) (by omega)) (h.cell (off + 3) (by omega)) (UInt8.toNat_lt _) (UInt8.toNat_lt _) (UInt8.toNat_lt _) (UInt8.toNat_lt _)).mono ?_
  rintro e w' ⟨rfl, k, rfl⟩
  refine ⟨rfl, ((Only.refl [g] w).setCell (.inl (by simp)) _).drewN k, ?_⟩
  exact h.bump.only ((Only.refl [] _).drewN k) (by simp) (by simp)

set_option maxRecDepth 100000 in
set_option maxHeartbeats 1000000 in
theorem rset_core (g gb cap n : Nat) (cur : Array Value) (c : Int) (off v : Nat) (w : World) (hb : Blk w g 58 #[.slice (some ⟨gb, 0, none⟩) n cap, .int .i64 c]) (hr : Blk w gb 5 cur)
    (hne : gb ≠ g) (hcur : cur.size = cap) (hfit : off + 4 ≤ n) (hcap : n ≤ cap) (hn : n ≤ 65536) (h4 : off % 4 = 0) (hc0 : 0 ≤ c) (hc1 : c < 1000000) (hv : v < 4294967296) :
    Calls Try.prog 30 #[.pointer (some ⟨g, 0, none⟩), .int .i64 off, .int .u32 v] w fun e w' => e = .returned (.int .i64 0) ∧
      ((((w.setCell ⟨g, 1, none⟩ (.int .i64 (c + 1))).setCell ⟨gb, off, none⟩ (.int .u8 ((v : Int) % 256))).setCell ⟨gb, off + 1, none⟩ (.int .u8 ((v : Int) / 256 % 256))).setCell ⟨gb, off + 2, none⟩ (.int .u8 ((v : Int) / 256 / 256 % 256))).setCell ⟨gb, off + 3, none⟩ (.int .u8 ((v : Int) / 256 / 256 / 256 % 256)) = w' := by
  have k0 : w.cell? ⟨g, 0, none⟩ = some (.slice (some ⟨gb, 0, none⟩) n cap) := by simpa using hb.cell 0
  have k1 : w.cell? ⟨g, 1, none⟩ = some (.int .i64 c) := by simpa using hb.cell 1
  have f1 := hb.frozen 1
  have hg := hb.lt
  have hgb := hr.lt
  have cc : ∀ i, i < cap → ∃ u, w.cell? ⟨gb, i, none⟩ = some u := fun i hi => ⟨cur[i], by rw [hr.cell i, Array.getElem?_eq_getElem]⟩
  obtain ⟨u0, b0⟩ := cc off (by omega)
  obtain ⟨u1, b1⟩ := cc (off + 1) (by omega)
  obtain ⟨u2, b2⟩ := cc (off + 2) (by omega)
  obtain ⟨u3, b3⟩ := cc (off + 3) (by omega)
  have z0 := hr.frozen off
  have z1 := hr.frozen (off + 1)
  have z2 := hr.frozen (off + 2)
  have z3 := hr.frozen (off + 3)
  have c4 : ((off : Int) % 4 == 0) = true := by simp; omega
  have c4' : ((off : Int) % 4 != 0) = false := by simp; omega
  have i0 : (0 : Int) ≤ (off : Int) := by omega
  have i1 : (off : Int) + 3 < (n : Int) := by omega
  clear h4 hcur cc
  go_enter Try.func30, Try.ntmps30
  go_wp2_with fail
  go_rounds 5
  go_ret
  exact ⟨rfl, rfl⟩

theorem set4 (cur : List Value) (off : Nat) (a b c d : Value) (h : off + 4 ≤ cur.length) : (((cur.set off a).set (off + 1) b).set (off + 2) c).set (off + 3) d = splice cur off [a, b, c, d] := by
  apply List.ext_getElem?
  intro i
  unfold splice
  simp only [List.getElem?_set, List.length_set, List.getElem?_append, List.length_take, List.length_cons, List.length_nil, List.getElem?_take, List.getElem?_drop]
  rw [show min off cur.length = off by omega]
  by_cases h0 : i < off
  · simp only [h0, if_true]
    repeat (rw [if_neg (by omega)])
  · rw [if_neg h0]
    obtain ⟨j, rfl⟩ : ∃ j, i = off + j := ⟨i - off, by omega⟩
    rw [show off + j - off = j by omega]
    match j with
    | 0 => simp; omega
    | 1 => simp; omega
    | 2 => simp; omega
    | 3 => simp; omega
    | j + 4 =>
      repeat (rw [if_neg (by omega)])
      congr 1
      omega

theorem rset_good (g gb cap : Nat) (bs : List UInt8) (c : Int) (off v : Nat) (w : World) (h : RAr w g gb cap bs c) (ho : off < bs.length) (h4 : off % 4 = 0) (hc0 : 0 ≤ c) (hc1 : c < 1000000) (hv : v < 4294967296) :
    Calls Try.prog 30 #[.pointer (some ⟨g, 0, none⟩), .int .i64 off, .int .u32 v] w fun e w' => e = .returned (.int .i64 0) ∧ Only [g, gb] w w' ∧ RAr w' g gb cap (splice bs off (four v)) (c + 1) := by
  have hd8 := h.d8
  obtain ⟨cur, hcur, hl, ht, hn, hm, _⟩ := own_block h.row
  have hmm := hm
  unfold maxLen at hmm
  have hlen : (splice bs off (four v)).length = bs.length := length_splice _ _ _ (by simp [four]; omega)
  refine (rset_core g gb cap bs.length cur.toArray c off v w h.hdr hcur h.ne (by simpa using hl) (by omega) hn h.max h4 hc0 hc1 hv).mono ?_
  rintro e w' ⟨rfl, rfl⟩
  have e0 (x : Nat) : U8 (UInt8.ofNat x) = .int .u8 ((x : Int) % 256) := by simp [U8, UInt8.toNat_ofNat']
  have hb := ((((h.hdr.set_ 1 (.int .i64 (c + 1))).far (p := ⟨gb, off, none⟩) (by simpa using h.ne.symm) (.int .u8 ((v : Int) % 256))).far (p := ⟨gb, off + 1, none⟩) (by simpa using h.ne.symm) (.int .u8 ((v : Int) / 256 % 256))).far (p := ⟨gb, off + 2, none⟩) (by simpa using h.ne.symm)
    (.int .u8 ((v : Int) / 256 / 256 % 256))).far (p := ⟨gb, off + 3, none⟩) (by simpa using h.ne.symm) (.int .u8 ((v : Int) / 256 / 256 / 256 % 256))
  have hr := (((((hcur.far (p := ⟨g, 1, none⟩) (by simpa using h.ne) (.int .i64 (c + 1))).set_ off (.int .u8 ((v : Int) % 256)))).set_ (off + 1) (.int .u8 ((v : Int) / 256 % 256))).set_ (off + 2) (.int .u8 ((v : Int) / 256 / 256 % 256))).set_ (off + 3) (.int .u8 ((v : Int) / 256 / 256 / 256 % 256))
  have hcs : ((((cur.toArray.setIfInBounds off (.int .u8 ((v : Int) % 256))).setIfInBounds (off + 1) (.int .u8 ((v : Int) / 256 % 256))).setIfInBounds (off + 2) (.int .u8 ((v : Int) / 256 / 256 % 256))).setIfInBounds (off + 3) (.int .u8 ((v : Int) / 256 / 256 / 256 % 256))) =
      (splice cur off (U8s (four v))).toArray := by
    apply Array.toList_inj.1
    simp only [Array.toList_setIfInBounds]
    rw [set4 _ _ _ _ _ _ (by omega)]
    simp only [four, U8s, List.map_cons, List.map_nil, e0]
    have d1 : ((v / 256 : Nat) : Int) = (v : Int) / 256 := by omega
    have d2 : ((v / 65536 : Nat) : Int) = (v : Int) / 256 / 256 := by omega
    have d3 : ((v / 16777216 : Nat) : Int) = (v : Int) / 256 / 256 / 256 := by omega
    rw [d1, d2, d3]
  rw [hcs] at hr
  refine ⟨rfl, ?_, ⟨by rw [hlen]; simpa using hb, ?_, by rw [hlen]; exact h.pos, by rw [hlen]; exact h.max, by rw [hlen]; exact hd8⟩⟩
  · exact (((((Only.refl [g, gb] w).setCell (.inl (by simp)) _).setCell (.inl (by simp)) _).setCell (.inl (by simp)) _).setCell (.inl (by simp)) _).setCell (.inl (by simp)) _
  · have := own_splice h.row hcur hr (by rw [length_U8s]; simp [four]; omega)
    rw [hlen]
    unfold U8s at this ⊢
    rw [splice_map]
    exact this

theorem rreset_any (g gb cap : Nat) (bs : List UInt8) (c : Int) (w : World) (h : RAr w g gb cap bs c) :
    Calls Try.prog 33 #[.pointer (some ⟨g, 0, none⟩)] w fun e w' => e = .returned (.int .i64 c) ∧ Only [g] w w' ∧ RAr w' g gb cap bs 0 := by
  have k1 : w.cell? ⟨g, 1, none⟩ = some (.int .i64 c) := by simpa using h.hdr.cell 1
  have f1 := h.hdr.frozen 1
  go_enter Try.func33, Try.ntmps33
  go_wp2
  go_ret
  exact ⟨rfl, (Only.refl _ _).setCell (.inl (by simp)) _, h.bump⟩

set_option maxHeartbeats 400000 in
theorem rwrite_bad (g gb cap : Nat) (bs : List UInt8) (c off : Int) (a : Option Addr) (n cp : Nat) (w : World) (h : RAr w g gb cap bs c) (hn : ¬ (0 ≤ off ∧ off ≤ bs.length ∧ (n : Int) ≤ bs.length - off)) :
    Calls Try.prog 32 #[.pointer (some ⟨g, 0, none⟩), .int .i64 off, .slice a n cp] w fun e w' => e = .returned (.int .i64 2) ∧ w = w' := by
  have k0 : w.cell? ⟨g, 0, none⟩ = some (.slice (some ⟨gb, 0, none⟩) bs.length cap) := by simpa using h.hdr.cell 0
  have hm := h.max
  by_cases h0 : off < 0
  · clear hn
    go_enter Try.func32, Try.ntmps32
    go_wp2
    go_ret
    exact ⟨rfl, rfl⟩
  · by_cases h1 : (bs.length : Int) < off
    · clear hn
      go_enter Try.func32, Try.ntmps32
      go_wp2
      go_ret
      exact ⟨rfl, rfl⟩
    · have h2 : (bs.length : Int) - off < n := by omega
      clear hn
      go_enter Try.func32, Try.ntmps32
      go_wp2
      go_ret
      exact ⟨rfl, rfl⟩

set_option maxHeartbeats 400000 in
theorem rread_bad (g gb cap : Nat) (bs : List UInt8) (c off n : Int) (w : World) (h : RAr w g gb cap bs c) (hn : ¬ (0 ≤ off ∧ 0 ≤ n ∧ off ≤ bs.length ∧ n ≤ bs.length - off)) :
    Calls Try.prog 31 #[.pointer (some ⟨g, 0, none⟩), .int .i64 off, .int .i64 n] w fun e w' => e = .returned (.tuple #[.slice none 0 0, .int .i64 2]) ∧ w = w' := by
  have k0 : w.cell? ⟨g, 0, none⟩ = some (.slice (some ⟨gb, 0, none⟩) bs.length cap) := by simpa using h.hdr.cell 0
  have hm := h.max
  by_cases h0 : off < 0
  · clear hn
    go_enter Try.func31, Try.ntmps31
    go_wp2
    go_ret2
    exact ⟨rfl, rfl⟩
  · by_cases h3 : n < 0
    · clear hn
      go_enter Try.func31, Try.ntmps31
      go_wp2
      go_ret2
      exact ⟨rfl, rfl⟩
    · by_cases h1 : (bs.length : Int) < off
      · clear hn
        go_enter Try.func31, Try.ntmps31
        go_wp2
        go_ret2
        exact ⟨rfl, rfl⟩
      · have h2 : (bs.length : Int) - off < n := by omega
        clear hn
        go_enter Try.func31, Try.ntmps31
        go_wp2
        go_ret2
        exact ⟨rfl, rfl⟩

set_option maxHeartbeats 400000 in
theorem rread_good (g gb cap : Nat) (bs : List UInt8) (c : Int) (off n : Nat) (w : World) (h : RAr w g gb cap bs c) (hfit : off + n ≤ bs.length) :
    Calls Try.prog 31 #[.pointer (some ⟨g, 0, none⟩), .int .i64 off, .int .i64 n] w fun e w' => (∃ a cap', e = .returned (.tuple #[.slice a n cap', .int .i64 0]) ∧ Src w' a ((bs.drop off).take n)) ∧ Only [] w w' := by
  have k0 : w.cell? ⟨g, 0, none⟩ = some (.slice (some ⟨gb, 0, none⟩) bs.length cap) := by simpa using h.hdr.cell 0
  have hm := h.max
  obtain ⟨hle, hcm⟩ := h.le
  unfold maxLen at hcm
  have i0 : (0 : Int) ≤ (off : Int) := by omega
  have i1 : (off : Int) + (n : Int) ≤ (bs.length : Int) := by omega
  have hsl := fun W => run_cut_lh (P := Try.prog) Try.underlying36 (show (Try.prog.info? 5).map (·.size) = some 1 by kernel_rfl) (some ⟨gb, 0, none⟩) bs.length cap .i64 .i64 (off : Int) ((off : Int) + (n : Int)) off (off + n) rfl (by omega) (by omega) (by omega) W
  obtain ⟨ad, had⟩ : ∃ ad, Hid ((if cap = off then some (⟨gb, 0, none⟩ : Addr) else (some (⟨gb, 0, none⟩ : Addr)).map (·.add (off * 1))) = some ad) := by
    by_cases hc : cap = off
    · rw [if_pos hc]; exact ⟨_, hide rfl⟩
    · rw [if_neg hc]; exact ⟨_, hide rfl⟩
  rw [had.out, show off + n - off = n by omega] at hsl
  have hcell : ∀ j u, (U8s ((bs.drop off).take n))[j]? = some u → w.cell? (ad.add j) = some u := by
    intro j u hj
    have hjn : j < n := by
      have h1 := (List.getElem?_eq_some_iff.1 hj).1
      rw [length_U8s, List.length_take] at h1
      omega
    have := had.out
    rw [if_neg (by omega)] at this
    simp only [Option.map_some, Option.some.injEq, add_mk, Nat.mul_one, Nat.zero_add] at this
    rw [← this, add_mk, h.row.cellAt _ (by omega), ← hj, U8s_get, U8s_get, List.getElem?_take, if_pos hjn, List.getElem?_drop]
  have hlen : ((bs.drop off).take n).length = n := by simp; omega
  obtain ⟨i0', hi, hz0, hz1, hz2⟩ := info_parts u8_info
  have HC := hide hcell
  have HL := hide hlen
  clear hcell hlen had
  go_enter Try.func31, Try.ntmps31
  go_wp2_with ((at_builtin
                refine wpList_append_own_at _ rfl _ _ 36 rfl w.heap.size 5 i0' (.int .u8 0) 1 1 Try.underlying36 hi hz0 hz1 hz2 rfl (by omega) (.slice none 0 0) 0 [] rfl (World.ownsRow_nil _ _ _ _) ad n _ (U8s ((bs.drop off).take n)) rfl (by rw [length_U8s, HL.out]; omega) HC.out (U8s_one _) (by unfold maxLen; omega) (by omega) (Nat.le_refl _) ?_
                intro v w1 hv hg hiff hblk))
  go_ret2
  rw [List.nil_append, Nat.zero_add] at hv
  have hO : Only [] w w1 := (Only.refl [] w).grown hg (fun k hk => by simp [Value.ownBlock] at hk)
  rcases hv.2 with ⟨rfl, hn0⟩ | ⟨g', cap', cur, rfl, _⟩
  · subst hn0
    exact ⟨⟨none, ⟨0, rfl⟩, fun hp => absurd hp (by simp)⟩, hO⟩
  · exact ⟨⟨_, ⟨_, rfl⟩, Src.own hv⟩, hO⟩

theorem set_splice (L cs : List Value) (off k : Nat) (v : Value) (hk : k = cs.length) (h : off + k < L.length) : (splice L off cs).set (off + k) v = splice L off (cs ++ [v]) := by
  subst hk
  unfold splice
  rw [List.set_append_right _ _ (by simp; omega), List.set_append_right _ _ (by simp; omega)]
  have e : off + cs.length - (L.take off).length - cs.length = 0 := by simp; omega
  rw [e, List.drop_eq_getElem_cons (by omega), List.set_cons_zero]
  simp [Nat.add_assoc]

set_option maxHeartbeats 1000000 in
theorem rwrite_core (g gb cap n m cp : Nat) (cur : List Value) (c : Int) (off : Nat) (a : Option Addr) (ds : List UInt8) (w : World) (hb : Blk w g 58 #[.slice (some ⟨gb, 0, none⟩) n cap, .int .i64 c]) (hr : Blk w gb 5 cur.toArray)
    (hne : gb ≠ g) (hcur : cur.length = cap) (hfit : off + m ≤ n) (hcap : n ≤ cap) (hn : n ≤ 65536) (hl : ds.length = m) (hs : Src w a ds) (hsb : 0 < ds.length → ∀ ad, a = some ad → ad.spot = none ∧ ad.block ≠ gb) :
    Calls Try.prog 32 #[.pointer (some ⟨g, 0, none⟩), .int .i64 off, .slice a m cp] w fun e w' => e = .returned (.int .i64 0) ∧ Only [gb] w w' ∧ Blk w' gb 5 (splice cur off (U8s ds)).toArray := by
  have k0 : w.cell? ⟨g, 0, none⟩ = some (.slice (some ⟨gb, 0, none⟩) n cap) := by simpa using hb.cell 0
  have hgb := hr.lt
  have i0 : (0 : Int) ≤ (off : Int) := by omega
  have i1 : (off : Int) + (m : Int) ≤ (n : Int) := by omega
  have d0 : decide ((off : Int) < 0) = false := by simp
  have d1 : decide (n < off) = false := by simp; omega
  have d2 : decide ((n : Int) - (off : Int) < (m : Int)) = false := by simp; omega
  have HL := hide hl
  have HS := hide hs
  have HC := hide hcur
  have HSB := hide hsb
  clear hl hs hcur hsb
  go_enter Try.func32, Try.ntmps32
  go_wp2_with fail
  go_loopw [7] (fun t wr => ∃ k : Nat, k ≤ m ∧ t = .int .i64 k ∧ Only [gb] w wr ∧ Blk wr gb 5 (splice cur off (U8s (ds.take k))).toArray) (fun t _ => m - (intOf t).toNat)
  case atStart => exact ⟨0, Nat.zero_le _, rfl, Only.refl _ _, by simpa [splice, U8s] using hr⟩
  case round =>
    obtain ⟨k, hk, rfl, hO, hB⟩ := hrel
    have q0 : wr.cell? ⟨g, 0, none⟩ = some (.slice (some ⟨gb, 0, none⟩) n cap) := hO.keep k0 (by simpa using hne.symm)
    by_cases hlt : k < m
    · have hlen := HL.out
      obtain ⟨ad, had, hsrc⟩ := HS.out (by omega)
      obtain ⟨hspot, hblk⟩ := HSB.out (by omega) ad had
      obtain ⟨sb, so, ss⟩ := ad
      simp only at hspot hblk
      subst hspot had
      obtain ⟨y, hyk⟩ : ∃ y, ds[k]? = some y := ⟨_, List.getElem?_eq_getElem (by omega)⟩
      have hx : wr.cell? ⟨sb, so + k, none⟩ = some (.int .u8 (y.toNat : Int)) := by
        have h1 := hsrc k (U8 y) (by rw [U8s_get, hyk]; rfl)
        rw [add_mk] at h1
        exact hO.keep h1 (by simpa using hblk)
      have hfz := hB.frozen (off + k)
      have hsl : (splice cur off (U8s (ds.take k))).length = cap := by rw [length_splice _ _ _ (by rw [length_U8s, List.length_take, HC.out]; omega), HC.out]
      obtain ⟨old, hcl⟩ : ∃ old, wr.cell? ⟨gb, off + k, none⟩ = some old := ⟨_, by rw [hB.cell, List.getElem?_toArray, List.getElem?_eq_getElem (by rw [hsl]; omega)]⟩
      have hy : (U8s (ds.take (k + 1))) = U8s (ds.take k) ++ [.int .u8 (y.toNat : Int)] := by
        rw [List.take_add_one, hyk, U8s_append]; rfl
      have HY := hide hy
      have HX := hide hlen
      have ji : (off : Int) + (k : Int) < (n : Int) := by omega
      have j2 : ((off : Int) + (k : Int)).toNat = off + k := by omega
      have j3 : (0 : Int) ≤ (off : Int) + (k : Int) := by omega
      have j4 : IntKind.i64.wrap ((off : Int) + (k : Int)) = (off : Int) + (k : Int) := IntWalk.i64_in _ (by omega)
      have j5 : (0 : Int) ≤ (k : Int) := by omega
      have j6 : (k : Int) < (m : Int) := by omega
      have t1 : (wr.setCell ⟨gb, off + k, none⟩ (.int .u8 (y.toNat : Int))).drew.cell? ⟨sb, so + k, none⟩ = some (.int .u8 (y.toNat : Int)) := by
        rw [World.cell?_drew, World.cell?_setCell_other _ _ _ _ (by intro e; injection e with e1; exact hblk e1.symm)]; exact hx
      have t0 : (wr.setCell ⟨gb, off + k, none⟩ (.int .u8 (y.toNat : Int))).drew.cell? ⟨g, 0, none⟩ = some (.slice (some ⟨gb, 0, none⟩) n cap) := by
        rw [World.cell?_drew, World.cell?_setCell_other _ _ _ _ (by intro e; injection e with e1; exact hne e1)]; exact q0
      clear hy hlen hsrc hyk hsl
      go_wp2_with fail
      go_region_held3 (fun W => W.cell? ⟨g, 0, none⟩ = some (.slice (some ⟨gb, 0, none⟩) n cap) ∧ W.cell? ⟨sb, so + k, none⟩ = some (.int .u8 (y.toNat : Int))) (first | go_keep | exact ⟨t0, t1⟩) (fail)
      go_wp2
      go_roundw
      case rel => exact ⟨k + 1, by omega, by go_num, ((hO.setCell (.inl (by simp)) _).drew), by
        have := (hB.set_ (off + k) (.int .u8 (y.toNat : Int))).drew
        rw [List.setIfInBounds_toArray, set_splice _ _ _ k _ (by rw [length_U8s, List.length_take, HX.out]; omega) (by rw [HC.out]; omega), ← HY.out] at this
        exact this⟩
      case measure => simp [intOf]; omega
    · go_wp2
      go_ret
      obtain rfl : k = m := by omega
      rw [List.take_of_length_le (by rw [HL.out]; exact Nat.le_refl _)] at hB
      exact ⟨rfl, hO, hB⟩
end Go.Proofs.Ytdlmgijbejkgaaa
