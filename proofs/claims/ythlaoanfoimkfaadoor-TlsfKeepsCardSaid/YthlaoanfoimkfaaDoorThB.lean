/- Tlsf: out, find, the lowest bit. No condition but what each theorem says. -/
import Derived.Test.YthlaoanfoimkfaaDoorThA
import Derived.Lib.TrailingZeros
namespace Go.Proofs.YthlaoanfoimkfaaDoor
open Go.RowKit
set_option linter.unusedVariables false
set_option linter.all false
set_option maxRecDepth 100000
section
variable {w w' : World} {h g gb cap mb N : Nat} {m : Nat → Nat} {S : List Nat}
set_option maxHeartbeats 2000000 in
theorem out_walk (H : Me w h g gb cap mb N m) {p z c n a : Nat} (hcls : cls z = c) (hc : c < 24) (hN : 256 ≤ N ∧ N ≤ 65536 ∧ N % 8 = 0) (hp : p % 8 = 0 ∧ 112 ≤ p ∧ p + 16 ≤ N) (hz : 16 ≤ z ∧ z ≤ 65536) (hm0 : m 0 < 67108864) (hn : m (p + 8) = n) (ha : m (p + 12) = a) (hn2 : n ≠ 0 → n % 8 = 0 ∧ n + 16 ≤ N ∧ 112 ≤ n) (ha2 : a ≠ 0 → a % 8 = 0 ∧ a + 16 ≤ N ∧ 112 ≤ a) :
    Calls Tryd.prog 54 #[.pointer (some ⟨h, 0, none⟩), .int .i64 p, .int .i64 z] w fun e w' => e = .returned (.tuple #[]) ∧ Only [g, gb] w w' ∧ Me w' h g gb cap mb N (outW m p c) := by
  have hnb : n < 65536 := by by_cases h0 : n = 0; omega; have := hn2 h0; omega
  have hab : a < 65536 := by by_cases h0 : a = 0; omega; have := ha2 h0; omega
  have hout : outW m p c = if a ≠ 0 then upd (unlink m n a) (a + 8) n else letW (unlink m n a) c n := by unfold outW; rw [hn, ha]
  have hz0 : unlink m n a 0 = m 0 := unlink_ne (by omega)
  have hpb : p < 65536 := by omega
  have hlt := H.glt
  have HC : Hid (∀ w, Calls Tryd.prog 58 #[.int .i64 z] w fun e w' => e = .returned (.int .i64 c) ∧ w = w') := Lib.hid fun w => by
    have := class_any (z := z) w (by omega) (by omega)
    rw [hcls] at this; exact this
  have g1 : Hid (∀ w1, Me w1 h g gb cap mb N m → Calls Tryd.prog 57 #[.pointer (some ⟨h, 0, none⟩), .int .i64 ((p : Int) + 8)] w1 fun e w' => e = .returned (.int .i64 n) ∧ Only [g] w1 w' ∧ Me w' h g gb cap mb N m) := Lib.hid fun w1 H1 => by
    have := get_any H1 (p := p + 8) (by omega) (by omega)
    rw [hn] at this; push_cast at this; exact this
  have g2 : Hid (∀ w1, Me w1 h g gb cap mb N m → Calls Tryd.prog 57 #[.pointer (some ⟨h, 0, none⟩), .int .i64 ((p : Int) + 12)] w1 fun e w' => e = .returned (.int .i64 a) ∧ Only [g] w1 w' ∧ Me w' h g gb cap mb N m) := Lib.hid fun w1 H1 => by
    have := get_any H1 (p := p + 12) (by omega) (by omega)
    rw [ha] at this; push_cast at this; exact this
  have s1 : n ≠ 0 → Hid (∀ w1, Me w1 h g gb cap mb N m → Calls Tryd.prog 44 #[.pointer (some ⟨h, 0, none⟩), .int .i64 ((n : Int) + 12), .int .i64 a] w1 fun e w' => e = .returned (.tuple #[]) ∧ Only [g, gb] w1 w' ∧ Me w' h g gb cap mb N (upd m (n + 12) a)) := fun h0 => Lib.hid fun w1 H1 => by
    have := hn2 h0
    have := set_any H1 (p := n + 12) (v := a) (by omega) (by omega) (by omega)
    push_cast at this; exact this
  have s2 : a ≠ 0 → Hid (∀ M1 w1, Me w1 h g gb cap mb N M1 → Calls Tryd.prog 44 #[.pointer (some ⟨h, 0, none⟩), .int .i64 ((a : Int) + 8), .int .i64 n] w1 fun e w' => e = .returned (.tuple #[]) ∧ Only [g, gb] w1 w' ∧ Me w' h g gb cap mb N (upd M1 (a + 8) n)) := fun h0 => Lib.hid fun M1 w1 H1 => by
    have := ha2 h0
    have := set_any H1 (p := a + 8) (v := n) (by omega) (by omega) (by omega)
    push_cast at this; exact this
  have h4 : Hid (∀ M4, M4 0 = m 0 → ∀ w1 x y, Me w1 h g gb cap mb N M4 → Bx w1 x y h c → x ≠ g ∧ x ≠ gb → y ≠ g ∧ y ≠ gb → Calls Tryd.prog 83 #[.int .i64 n, .pointer (some ⟨x, 0, none⟩), .pointer (some ⟨y, 0, none⟩)] w1 fun e w' => e = .returned (.tuple #[]) ∧ Only [g, gb] w1 w' ∧ Me w' h g gb cap mb N (letW M4 c n)) := Lib.hid fun M4 e0 w1 x y H1 B1 hx hy => let_any H1 B1 (by omega) hN.1 hx hy (by omega) (by omega)
  have HH := Lib.hid H
  replace hz0 := Lib.hid hz0
  rw [hout]
  clear hout hm0 hn ha H hN hp hz hcls hc
  by_cases h0 : n = 0
  · have hd : ((n : Int) == 0) = true := by simp; omega
    have hu : unlink m n a = m := by unfold unlink; rw [if_neg (by omega)]
    rw [hu] at hz0 ⊢
    by_cases k0 : a = 0
    · have hd2 : ((a : Int) == 0) = true := by simp; omega
      rw [if_neg (by omega)]
      clear hu h0 k0 hn2 ha2 s2 s1
      go_enter Tryd.func54, Tryd.ntmps54
      go_wp2_with (first
        | (go_at_call 57; (with_reducible refine (g1.out _ HH.out).mono ?_); rintro e w1 ⟨rfl, o1, H1⟩)
        | (go_at_call 57; (with_reducible refine (g2.out _ H1).mono ?_); rintro e w2 ⟨rfl, o2, H2⟩)
        | (go_at_call 58; (with_reducible refine (HC.out _).mono ?_); rintro e w5 ⟨rfl, rfl⟩)
        | (go_at_call 59; have hl1 := (H2).glt; refine (list_any h c _).mono ?_; rintro e w6 ⟨x, y, rfl, o6, B6, hx1, hy1⟩)
        | (go_at_call 83; (with_reducible refine (h4.out _ (by first | exact hz0.out | rfl) _ _ _ (H2.only0 o6) B6 (by omega) (by omega)).mono ?_); rintro e w7 ⟨rfl, o7, H7⟩))
      go_end0
      exact ⟨rfl, (((o1.mono (by simp) : Only [g, gb] _ _).trans o2 (by simp)).trans0 o6).trans o7 (by simp), H7⟩
    · have hd2 : ((a : Int) == 0) = false := by simp; omega
      rw [if_pos k0]
      replace s2 := s2 k0
      clear hu h0 k0 hn2 ha2 s1
      go_enter Tryd.func54, Tryd.ntmps54
      go_wp2_with (first
        | (go_at_call 57; (with_reducible refine (g1.out _ HH.out).mono ?_); rintro e w1 ⟨rfl, o1, H1⟩)
        | (go_at_call 57; (with_reducible refine (g2.out _ H1).mono ?_); rintro e w2 ⟨rfl, o2, H2⟩)
        | (go_at_call 44; (with_reducible refine (s2.out _ _ H2).mono ?_); rintro e w4 ⟨rfl, o4, H4⟩))
      (try simp only [Exit.inBlock, Exit.then]); refine bodyPost_ret (results_none rfl _ _ _) rfl ?_
      exact ⟨rfl, ((o1.mono (by simp) : Only [g, gb] _ _).trans o2 (by simp)).trans o4 (by simp), H4⟩
  · have hd : ((n : Int) == 0) = false := by simp; omega
    have hu : unlink m n a = upd m (n + 12) a := by unfold unlink; rw [if_pos h0]
    replace s1 := s1 h0
    rw [hu] at hz0 ⊢
    generalize upd m (n + 12) a = M1 at s1 hz0 ⊢
    by_cases k0 : a = 0
    · have hd2 : ((a : Int) == 0) = true := by simp; omega
      rw [if_neg (by omega)]
      clear hu h0 k0 hn2 ha2 s2
      go_enter Tryd.func54, Tryd.ntmps54
      go_wp2_with (first
        | (go_at_call 57; (with_reducible refine (g1.out _ HH.out).mono ?_); rintro e w1 ⟨rfl, o1, H1⟩)
        | (go_at_call 57; (with_reducible refine (g2.out _ H1).mono ?_); rintro e w2 ⟨rfl, o2, H2⟩)
        | (go_at_call 44; (with_reducible refine (s1.out _ H2).mono ?_); rintro e w3 ⟨rfl, o3, H3⟩)
        | (go_at_call 58; (with_reducible refine (HC.out _).mono ?_); rintro e w5 ⟨rfl, rfl⟩)
        | (go_at_call 59; have hl1 := (H3).glt; refine (list_any h c _).mono ?_; rintro e w6 ⟨x, y, rfl, o6, B6, hx1, hy1⟩)
        | (go_at_call 83; (with_reducible refine (h4.out _ (by first | exact hz0.out | rfl) _ _ _ (H3.only0 o6) B6 (by omega) (by omega)).mono ?_); rintro e w7 ⟨rfl, o7, H7⟩))
      go_end0
      exact ⟨rfl, ((((o1.mono (by simp) : Only [g, gb] _ _).trans o2 (by simp)).trans o3 (by simp)).trans0 o6).trans o7 (by simp), H7⟩
    · have hd2 : ((a : Int) == 0) = false := by simp; omega
      rw [if_pos k0]
      replace s2 := s2 k0
      clear hu h0 k0 hn2 ha2
      go_enter Tryd.func54, Tryd.ntmps54
      go_wp2_with (first
        | (go_at_call 57; (with_reducible refine (g1.out _ HH.out).mono ?_); rintro e w1 ⟨rfl, o1, H1⟩)
        | (go_at_call 57; (with_reducible refine (g2.out _ H1).mono ?_); rintro e w2 ⟨rfl, o2, H2⟩)
        | (go_at_call 44; (with_reducible refine (s1.out _ H2).mono ?_); rintro e w3 ⟨rfl, o3, H3⟩)
        | (go_at_call 44; (with_reducible refine (s2.out _ _ H3).mono ?_); rintro e w4 ⟨rfl, o4, H4⟩))
      (try simp only [Exit.inBlock, Exit.then]); refine bodyPost_ret (results_none rfl _ _ _) rfl ?_
      exact ⟨rfl, (((o1.mono (by simp) : Only [g, gb] _ _).trans o2 (by simp)).trans o3 (by simp)).trans o4 (by simp), H4⟩
/-! ## Both, on what the words say -/
theorem Inv.low' {B : List Bk} {L : Nat → List Nat} (hI : Inv N m B L) : m 0 < 67108864 := hI.low
theorem put_any {A C : List Bk} {b : Bk} {L : Nat → List Nat} (H : Me w h g gb cap mb N m) (hI : Inv N m (A ++ b :: C) L) (hk : b.k = 2) :
    Calls Tryd.prog 45 #[.pointer (some ⟨h, 0, none⟩), .int .i64 b.at', .int .i64 b.size] w fun e w' => e = .returned (.tuple #[]) ∧ Only [g, gb] w w' ∧ ∃ m', Me w' h g gb cap mb N m' ∧
      Inv N m' (A ++ ⟨b.at', b.size, 1⟩ :: C) (insL L (cls b.size) b.at') ∧ (∀ x, Off (A ++ b :: C) x → x ≠ b.at' + 8 → x ≠ b.at' + 12 → m' x = m x) := by
  have hb : b ∈ A ++ b :: C := by simp
  have hc := cls_lt' hI hb
  have hp := hI.tile.pos
  have hr := hI.root (cls b.size) (by omega)
  have hS := hI.size
  refine (put_walk H rfl hc hS ⟨hp.2.1, hp.1⟩ ⟨hp.2.2.2.1, hp.2.2.1⟩ hp.2.2.2.2.1 hI.low' rfl fun h0 => ?_).mono ?_
  · have : m (4 + 4 * cls b.size) ∈ L (cls b.size) := by
      rw [hr] at h0 ⊢
      exact (headD_mem _).elim (fun e => absurd e.2 h0) id
    have := hI.place this
    exact ⟨this.1, this.2.2.1⟩
  · rintro e w1 ⟨rfl, o1, H1⟩
    exact ⟨rfl, o1, _, H1, put_inv hI hk⟩
theorem out_any {A C : List Bk} {b : Bk} {L : Nat → List Nat} (H : Me w h g gb cap mb N m) (hI : Inv N m (A ++ b :: C) L) (hk : b.k = 1) :
    Calls Tryd.prog 54 #[.pointer (some ⟨h, 0, none⟩), .int .i64 b.at', .int .i64 b.size] w fun e w' => e = .returned (.tuple #[]) ∧ Only [g, gb] w w' ∧ ∃ m', Me w' h g gb cap mb N m' ∧
      Inv N m' (A ++ ⟨b.at', b.size, 2⟩ :: C) (rmL L (cls b.size) b.at') ∧ (∀ x, Off (A ++ b :: C) x → m' x = m x) := by
  have hb : b ∈ A ++ b :: C := by simp
  have hc := cls_lt' hI hb
  have hp := hI.tile.pos
  have hS := hI.size
  have hin : b.at' ∈ L (cls b.size) := (hI.mem _ _).2 ⟨b, hb, rfl, hk, rfl⟩
  obtain ⟨l1, l2, hl⟩ := List.append_of_mem hin
  have hlk := hI.link (cls b.size) (by omega)
  rw [hl] at hlk
  obtain ⟨e12, e8⟩ := hlk.mid
  have hsub : ∀ x ∈ l1 ++ b.at' :: l2, x % 8 = 0 ∧ x + 16 ≤ N ∧ 112 ≤ x := fun x hx => by
    rw [← hl] at hx
    have := hI.place hx
    omega
  refine (out_walk H rfl hc hS ⟨hp.2.1, hp.1, by omega⟩ ⟨hp.2.2.1, by omega⟩ hI.low' rfl rfl (fun h0 => ?_) (fun h0 => ?_)).mono ?_
  · rw [e8] at h0 ⊢
    rcases headD_mem l2 with e | e
    · exact absurd e.2 h0
    · exact hsub _ (List.mem_append_right _ (List.mem_cons_of_mem _ e))
  · rw [e12] at h0 ⊢
    rcases lastD_mem l1 0 with e | e
    · exact absurd e.2 h0
    · exact hsub _ (List.mem_append_left _ e)
  · rintro e w1 ⟨rfl, o1, H1⟩
    exact ⟨rfl, o1, _, H1, out_inv hI hk⟩
end
end Go.Proofs.YthlaoanfoimkfaaDoor
namespace Go.Proofs.YthlaoanfoimkfaaDoor
open Go.RowKit
set_option linter.unusedVariables false
set_option linter.all false
set_option maxRecDepth 100000
/-- math/bits' table stands where it was laid. -/
structure Env (w : World) : Prop where
  tab : ∀ i < 32, w.cell? ⟨0, i, none⟩ = some (.int .u8 (Lib.deBruijn32tab.getD i 0 : Nat))
  one : 1 ≤ w.heap.size
theorem bits_and_u32_nat (a b : Nat) (ha : a < 4294967296) (hb : b < 4294967296) : bits .and .u32 (a : Int) (b : Int) = ((a &&& b : Nat) : Int) :=
  (bits_nat .u32 32 (by decide) (fun n h0 h1 => by rw [IntKind.wrap_u32]; omega) a b ha hb).1
theorem tz_key (x a : Nat) (hx : x < 4294967296) (hx0 : x ≠ 0) (hlow : x &&& (4294967296 - x) = a) :
    bits BinOp.and IntKind.u32 (x : Int) (-(x : Int) % 4294967296) * 125613361 % 4294967296 / 134217728 = ((a * 125613361 % 4294967296 / 134217728 : Nat) : Int) := by
  have e1 : -(x : Int) % 4294967296 = ((4294967296 - x : Nat) : Int) := by omega
  rw [e1, bits_and_u32_nat x _ hx (by omega), hlow]
  omega
set_option maxHeartbeats 1000000 in
theorem tz_core (x k idx : Nat) (w : World) (hx0 : ((x : Int) == 0) = false)
    (key : bits BinOp.and IntKind.u32 (x : Int) (-(x : Int) % 4294967296) * 125613361 % 4294967296 / 134217728 = (idx : Int))
    (hi : idx < 32) (hk : k < 32) (hcell : w.cell? ⟨0, idx, none⟩ = some (.int .u8 k)) :
    Calls Tryd.prog 78 #[.int .u32 x] w fun e w' => e = .returned (.int .i64 k) ∧ w = w' := by
  go_enter Tryd.func78, Tryd.ntmps78
  go_wp2_with (simp only [key])
  go_ret
  exact ⟨rfl, rfl⟩
theorem tz_any (x : Nat) (hx0 : x ≠ 0) (hx : x < 4294967296) (w : World) (hE : Env w) :
    Calls Tryd.prog 78 #[.int .u32 x] w fun e w' => e = .returned (.int .i64 (Lib.ctz 32 x)) ∧ w = w' := by
  obtain ⟨hlow, hk⟩ := Lib.lowest_bit 32 x hx0 hx
  obtain ⟨hi, htab⟩ := Lib.deBruijn32_at _ hk
  have hcell := hE.tab _ hi
  rw [htab] at hcell
  exact tz_core x _ _ w (by simp; omega) (tz_key x _ hx hx0 hlow) hi hk hcell
end Go.Proofs.YthlaoanfoimkfaaDoor
namespace Go.Proofs.YthlaoanfoimkfaaDoor
open Go.RowKit
set_option linter.unusedVariables false
set_option linter.all false
set_option maxRecDepth 100000
/-! ## The lowest bit, plainly -/
theorem ctz_bit {x : Nat} (h0 : x ≠ 0) (h : x < 2 ^ 32) : x.testBit (Lib.ctz 32 x) = true ∧ (∀ j < Lib.ctz 32 x, x.testBit j = false) ∧ Lib.ctz 32 x < 32 := by
  obtain ⟨m, hm, hk⟩ := Lib.ctzFrom_spec 32 x (by omega) h
  have e : Lib.ctz 32 x = Lib.ctzFrom 32 x := by simp [Lib.ctz, h0]
  rw [e]
  generalize Lib.ctzFrom 32 x = k at *
  subst hm
  refine ⟨?_, fun j hj => ?_, hk⟩
  · rw [Nat.mul_comm, Nat.testBit_mul_two_pow]
    simp
  · rw [Nat.mul_comm, Nat.testBit_mul_two_pow]
    simp; omega
theorem high_bit (x c j : Nat) : (x / 2 ^ c * 2 ^ c).testBit j = (decide (c ≤ j) && x.testBit j) := by
  rw [Nat.testBit_mul_two_pow]
  by_cases h : c ≤ j
  · rw [Nat.testBit_div_two_pow, show j - c + c = j by omega]
  · simp [h]
/-- The first class from one on that has a block. -/
def FirstC (L : Nat → List Nat) (c0 c : Nat) : Prop := c0 ≤ c ∧ L c ≠ [] ∧ ∀ j, c0 ≤ j → j < c → L j = []
theorem Env.only {w w' : World} {S : List Nat} (H : Env w) (ho : Only S w w') (h0 : 0 ∉ S) : Env w' := by
  refine ⟨fun i hi => ho.keep (H.tab i hi) h0, Nat.le_trans H.one ho.size⟩
section
variable {w w' : World} {h g gb cap mb N : Nat} {m : Nat → Nat} {S : List Nat} {B A C : List Bk} {b : Bk} {L : Nat → List Nat}
theorem Inv.nil (hI : Inv N m B L) {c : Nat} (hc : 24 ≤ c) : L c = [] := by
  cases hl : L c with
  | nil => rfl
  | cons a r =>
    have := hI.place (n := a) (c := c) (by rw [hl]; simp)
    omega
theorem find_none (hI : Inv N m B L) {c0 : Nat} (hn : ∀ c, c0 ≤ c → L c = []) : m 0 / 2 ^ c0 * 2 ^ c0 = 0 := by
  apply Nat.eq_of_testBit_eq
  intro j
  rw [high_bit, Nat.zero_testBit]
  by_cases hj : j < 26
  · rw [hI.bit j hj]
    by_cases hc : c0 ≤ j
    · simp [hn j hc]
    · simp [hc]
  · rw [Nat.testBit_lt_two_pow (Nat.lt_of_lt_of_le hI.low (Nat.pow_le_pow_right (by omega) (by omega)))]
    simp
theorem find_some (hI : Inv N m B L) {c0 c : Nat} (hc : FirstC L c0 c) : m 0 / 2 ^ c0 * 2 ^ c0 ≠ 0 ∧ Lib.ctz 32 (m 0 / 2 ^ c0 * 2 ^ c0) = c := by
  obtain ⟨h1, h2, h3⟩ := hc
  have hc26 : c < 26 := by
    rcases Nat.lt_or_ge c 26 with q | q
    · exact q
    · exact absurd (hI.nil (by omega)) h2
  have hbit : (m 0 / 2 ^ c0 * 2 ^ c0).testBit c = true := by rw [high_bit, hI.bit c hc26]; simp [h1, h2]
  have hne : m 0 / 2 ^ c0 * 2 ^ c0 ≠ 0 := fun e => by rw [e, Nat.zero_testBit] at hbit; cases hbit
  have hle : m 0 / 2 ^ c0 * 2 ^ c0 ≤ m 0 := Nat.div_mul_le_self _ _
  have := hI.low
  obtain ⟨k1, k2, k3⟩ := ctz_bit hne (by omega)
  refine ⟨hne, ?_⟩
  rcases Nat.lt_trichotomy (Lib.ctz 32 (m 0 / 2 ^ c0 * 2 ^ c0)) c with q | q | q
  · rw [high_bit, hI.bit _ (by omega)] at k1
    simp at k1
    exact absurd (h3 _ k1.1 q) k1.2
  · exact q
  · rw [k2 c q] at hbit; cases hbit
theorem floor_eq (z : Nat) (hz : 16 ≤ z) : floor z = cls (z + 2 ^ (Nat.log2 z - 1) - 1) := rfl
theorem floor_arg {z : Nat} (hz : 16 ≤ z) (hz2 : z < 80000) : 16 ≤ z + 2 ^ (Nat.log2 z - 1) - 1 ∧ z + 2 ^ (Nat.log2 z - 1) - 1 < 131072 ∧ 2 ^ (Nat.log2 z - 1) ≤ 32768 := by
  have hf1 : Nat.log2 z < 17 := (Nat.log2_lt (by omega)).2 (by omega)
  have hp : 2 ^ (Nat.log2 z - 1) ≤ 2 ^ 15 := Nat.pow_le_pow_right (by omega) (by omega)
  have : 0 < 2 ^ (Nat.log2 z - 1) := Nat.pos_of_ne_zero (by simp)
  omega
theorem cls_le {z : Nat} (h0 : 16 ≤ z) (h1 : z < 131072) : cls z < 26 := by
  have : Nat.log2 z < 17 := (Nat.log2_lt (by omega)).2 (by omega)
  unfold cls
  omega
set_option maxHeartbeats 2000000 in
theorem find_no (H : Me w h g gb cap mb N m) (hI : Inv N m B L) {z : Nat} (hz : 16 ≤ z) (hz2 : z < 80000) (hn : ∀ c, floor z ≤ c → L c = []) :
    Calls Tryd.prog 47 #[.pointer (some ⟨h, 0, none⟩), .int .i64 z] w fun e w' => e = .returned (.tuple #[.int .i64 0, .int .i64 0, .bool false]) ∧ Only [g] w w' ∧ Me w' h g gb cap mb N m := by
  have hLn := Tryd.bits_Len z w (by omega) (by omega)
  rw [Int.toNat_natCast, bitLen_log2 (by omega) (by omega)] at hLn
  have hf0 : 4 ≤ Nat.log2 z := (Nat.le_log2 (by omega)).2 hz
  have hf1 : Nat.log2 z < 17 := (Nat.log2_lt (by omega)).2 (by omega)
  obtain ⟨a1, a2, a3⟩ := floor_arg hz hz2
  have hcl : floor z < 26 := cls_le a1 a2
  have hX := find_none hI hn
  have HC : Calls Tryd.prog 58 #[.int .i64 ((z : Int) + 2 ^ (Nat.log2 z - 1) - 1)] w fun e w' => e = .returned (.int .i64 (floor z)) ∧ w = w' := by
    have := class_any w a1 a2
    rw [show ((z + 2 ^ (Nat.log2 z - 1) - 1 : Nat) : Int) = (z : Int) + 2 ^ (Nat.log2 z - 1) - 1 by
      have : 0 < 2 ^ (Nat.log2 z - 1) := Nat.pos_of_ne_zero (by simp)
      have e2 : ((2 ^ (Nat.log2 z - 1) : Nat) : Int) = (2 : Int) ^ (Nat.log2 z - 1) := by simp
      omega] at this
    exact this
  have hp3 : (2 : Int) ^ (Nat.log2 z - 1) ≤ 32768 ∧ 0 < (2 : Int) ^ (Nat.log2 z - 1) := by
    have e2 : ((2 ^ (Nat.log2 z - 1) : Nat) : Int) = (2 : Int) ^ (Nat.log2 z - 1) := by simp
    have : 0 < 2 ^ (Nat.log2 z - 1) := Nat.pos_of_ne_zero (by simp)
    omega
  generalize floor z = c0 at *
  generalize Nat.log2 z = f at *
  obtain ⟨d, rfl⟩ : ∃ d, f = d + 1 := ⟨f - 1, by omega⟩
  rw [show d + 1 - 1 = d by omega] at HC hp3
  have hG : Calls Tryd.prog 57 #[.pointer (some ⟨h, 0, none⟩), .int .i64 0] w fun e w' => e = .returned (.int .i64 (m 0)) ∧ Only [g] w w' ∧ Me w' h g gb cap mb N m := get_any H (p := 0) (by have := hI.size; omega) (by omega)
  have hm0 := hI.low'
  replace hG := Lib.hid hG
  replace HC := Lib.hid HC
  have hLn := Lib.hid hLn
  generalize m 0 = v at *
  have hq : (v : Int) / 2 ^ c0 * 2 ^ c0 % 4294967296 = 0 := by
    have e2 : ((2 ^ c0 : Nat) : Int) = (2 : Int) ^ c0 := by simp
    have e3 : ((v / 2 ^ c0 * 2 ^ c0 : Nat) : Int) = (v : Int) / 2 ^ c0 * 2 ^ c0 := by push_cast; rfl
    rw [← e3, hX]; rfl
  clear H hI hn a1 a2 a3 hX
  go_enter Tryd.func47, Tryd.ntmps47
  go_wp2_with (first
    | (go_at_call 77; (with_reducible refine hLn.out.mono ?_); rintro e w' ⟨rfl, rfl⟩)
    | (go_at_call 58; (with_reducible refine HC.out.mono ?_); rintro e w' ⟨rfl, rfl⟩)
    | (go_at_call 57; (with_reducible refine hG.out.mono ?_); rintro e w1 ⟨rfl, o1, H1⟩))
  go_ret3
  exact ⟨by simp, o1, H1⟩
set_option maxHeartbeats 2000000 in
theorem find_yes (hEnv : Env w) (hg0 : g ≠ 0) (H : Me w h g gb cap mb N m) (hI : Inv N m (A ++ b :: C) L) (hk : b.k = 1) {z c : Nat} (hz : 16 ≤ z) (hz2 : z < 80000) (hn : FirstC L (floor z) c) (hb : (L c).headD 0 = b.at') :
    Calls Tryd.prog 47 #[.pointer (some ⟨h, 0, none⟩), .int .i64 z] w fun e w' => e = .returned (.tuple #[.int .i64 b.at', .int .i64 b.size, .bool true]) ∧ Only [g, gb] w w' ∧ ∃ m', Me w' h g gb cap mb N m' ∧
      Inv N m' (A ++ ⟨b.at', b.size, 2⟩ :: C) (rmL L (cls b.size) b.at') ∧ (∀ x, Off (A ++ b :: C) x → m' x = m x) := by
  have hLn := Tryd.bits_Len z w (by omega) (by omega)
  rw [Int.toNat_natCast, bitLen_log2 (by omega) (by omega)] at hLn
  have hf0 : 4 ≤ Nat.log2 z := (Nat.le_log2 (by omega)).2 hz
  have hf1 : Nat.log2 z < 17 := (Nat.log2_lt (by omega)).2 (by omega)
  obtain ⟨a1, a2, a3⟩ := floor_arg hz hz2
  have hcl : floor z < 26 := cls_le a1 a2
  obtain ⟨hX0, hX⟩ := find_some hI hn
  have hpos := hI.tile.pos
  have hsz := hI.size
  have hhd := hI.head b (by simp) (by omega)
  rw [hk] at hhd
  have hcc : c < 26 := by
    rcases Nat.lt_or_ge c 26 with q | q
    · exact q
    · exact absurd (hI.nil (by omega)) hn.2.1
  have hroot := hI.root c hcc
  rw [hb] at hroot
  have hF : Hid (∀ w1 x y, Me w1 h g gb cap mb N m → Bx w1 x y h c → Calls Tryd.prog 82 #[.pointer (some ⟨x, 0, none⟩), .pointer (some ⟨y, 0, none⟩)] w1 fun e w' => e = .returned (.int .i64 b.at') ∧ Only [g] w1 w' ∧ Me w' h g gb cap mb N m) := Lib.hid fun w1 x y H1 B1 => by
    have := first_any H1 B1 hcc (by omega)
    rw [hroot] at this
    exact this
  have hSz : Hid (∀ w1, Me w1 h g gb cap mb N m → Calls Tryd.prog 51 #[.pointer (some ⟨h, 0, none⟩), .int .i64 b.at'] w1 fun e w' => e = .returned (.tuple #[.int .i64 b.size, .bool true]) ∧ Only [g] w1 w' ∧ Me w' h g gb cap mb N m) := Lib.hid fun w1 H1 => size_any' H1 (k := 1) (by omega) (by omega) (by omega) (by omega) hhd
  have hO : Hid (∀ w1, Me w1 h g gb cap mb N m → Calls Tryd.prog 54 #[.pointer (some ⟨h, 0, none⟩), .int .i64 b.at', .int .i64 b.size] w1 fun e w' => e = .returned (.tuple #[]) ∧ Only [g, gb] w1 w' ∧ ∃ m', Me w' h g gb cap mb N m' ∧
      Inv N m' (A ++ ⟨b.at', b.size, 2⟩ :: C) (rmL L (cls b.size) b.at') ∧ (∀ x, Off (A ++ b :: C) x → m' x = m x)) := Lib.hid fun w1 H1 => out_any H1 hI hk
  have hT : Hid (∀ w1, Env w1 → Calls Tryd.prog 78 #[.int .u32 (m 0 / 2 ^ floor z * 2 ^ floor z : Nat)] w1 fun e w' => e = .returned (.int .i64 c) ∧ w1 = w') := Lib.hid fun w1 hE1 => by
    have := tz_any _ hX0 (Nat.lt_of_le_of_lt (Nat.div_mul_le_self _ _) (H.lt 0)) w1 hE1
    rw [hX] at this
    exact this
  have hXlt : m 0 / 2 ^ floor z * 2 ^ floor z < 4294967296 := Nat.lt_of_le_of_lt (Nat.div_mul_le_self _ _) (H.lt 0)
  have HC : Calls Tryd.prog 58 #[.int .i64 ((z : Int) + 2 ^ (Nat.log2 z - 1) - 1)] w fun e w' => e = .returned (.int .i64 (floor z)) ∧ w = w' := by
    have := class_any w a1 a2
    rw [show ((z + 2 ^ (Nat.log2 z - 1) - 1 : Nat) : Int) = (z : Int) + 2 ^ (Nat.log2 z - 1) - 1 by
      have : 0 < 2 ^ (Nat.log2 z - 1) := Nat.pos_of_ne_zero (by simp)
      have e2 : ((2 ^ (Nat.log2 z - 1) : Nat) : Int) = (2 : Int) ^ (Nat.log2 z - 1) := by simp
      omega] at this
    exact this
  have hp3 : (2 : Int) ^ (Nat.log2 z - 1) ≤ 32768 ∧ 0 < (2 : Int) ^ (Nat.log2 z - 1) := by
    have e2 : ((2 ^ (Nat.log2 z - 1) : Nat) : Int) = (2 : Int) ^ (Nat.log2 z - 1) := by simp
    have : 0 < 2 ^ (Nat.log2 z - 1) := Nat.pos_of_ne_zero (by simp)
    omega
  generalize floor z = c0 at *
  generalize Nat.log2 z = f at *
  obtain ⟨d, rfl⟩ : ∃ d, f = d + 1 := ⟨f - 1, by omega⟩
  rw [show d + 1 - 1 = d by omega] at HC hp3
  have hG : Calls Tryd.prog 57 #[.pointer (some ⟨h, 0, none⟩), .int .i64 0] w fun e w' => e = .returned (.int .i64 (m 0)) ∧ Only [g] w w' ∧ Me w' h g gb cap mb N m := get_any H (p := 0) (by have := hI.size; omega) (by omega)
  have hm0 := hI.low'
  replace hG := Lib.hid hG
  replace HC := Lib.hid HC
  have hLn := Lib.hid hLn
  generalize m 0 = v at *
  have hq : (v : Int) / 2 ^ c0 * 2 ^ c0 % 4294967296 = (v / 2 ^ c0 * 2 ^ c0 : Nat) := by
    have e3 : ((v / 2 ^ c0 * 2 ^ c0 : Nat) : Int) = (v : Int) / 2 ^ c0 * 2 ^ c0 := by push_cast; rfl
    rw [← e3]; omega
  generalize v / 2 ^ c0 * 2 ^ c0 = X at *
  have hX1 : ((X : Int) == 0) = false := by simp; omega
  clear H hI hn a1 a2 a3 hX0 hX hb hk hroot hhd hpos
  generalize b.at' = p at *
  generalize b.size = sz at *
  go_enter Tryd.func47, Tryd.ntmps47
  go_wp2_with (first
    | (go_at_call 77; (with_reducible refine hLn.out.mono ?_); rintro e w' ⟨rfl, rfl⟩)
    | (go_at_call 58; (with_reducible refine HC.out.mono ?_); rintro e w' ⟨rfl, rfl⟩)
    | (go_at_call 57; (with_reducible refine hG.out.mono ?_); rintro e w1 ⟨rfl, o1, H1⟩)
    | (go_at_call 78; (with_reducible refine (hT.out _ (hEnv.only o1 (by simp; omega))).mono ?_); rintro e w' ⟨rfl, rfl⟩)
    | (go_at_call 59; refine (list_any h c _).mono ?_; rintro e w2 ⟨x, y, rfl, o2, B2, hx2, hy2⟩)
    | (go_at_call 82; (with_reducible refine (hF.out _ _ _ (H1.only0 o2) B2).mono ?_); rintro e w3 ⟨rfl, o3, H3⟩)
    | (go_at_call 51; (with_reducible refine (hSz.out _ H3).mono ?_); rintro e w4 ⟨rfl, o4, H4⟩)
    | (go_at_call 54; (with_reducible refine (hO.out _ H4).mono ?_); rintro e w5 ⟨rfl, o5, H5⟩))
  go_ret3
  exact ⟨by simp, (((((o1.mono (by simp) : Only [g, gb] _ _).trans0 o2).trans o3 (by simp)).trans o4 (by simp)).trans o5 (by simp)), H5⟩
end
end Go.Proofs.YthlaoanfoimkfaaDoor
