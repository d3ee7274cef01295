/- Walks over wire: Number, and the document's. No condition. -/
import Derived.Test.YtmaljajdmgkakaaGreatDoorProg
import Derived.Test.YtmaljajdmgkakaaGreatDoorMore
import Derived.Deep.RegionHeld3
import Derived.Laws.BitsAllLaws
namespace Go.Proofs.YtmaljajdmgkakaaGreatDoor
open Go.RowKit
set_option linter.unusedVariables false
set_option linter.all false

/-- A number's form. -/
def numF (n : Nat) : List UInt8 := if h : n ≤ 127 then [UInt8.ofNat n] else UInt8.ofNat (n % 128 + 128) :: numF (n / 128)
termination_by n
decreasing_by omega
theorem numF_small {n : Nat} (h : n ≤ 127) : numF n = [UInt8.ofNat n] := by rw [numF, dif_pos h]
theorem numF_big {n : Nat} (h : ¬ n ≤ 127) : numF n = UInt8.ofNat (n % 128 + 128) :: numF (n / 128) := by rw [numF, dif_neg h]
theorem numF_pos (n : Nat) : 0 < (numF n).length := by
  by_cases h : n ≤ 127
  · rw [numF_small h]; simp
  · rw [numF_big h]; simp

/-- Reading a number: what it is, and how many bytes it takes. -/
def rdN : List UInt8 → Nat → Nat → Option (Nat × Nat)
  | [], _, _ => none
  | c :: r, i, acc => if (i = 9 ∧ 1 < c.toNat) ∨ (0 < i ∧ c.toNat = 0) then none else if c.toNat < 128 then some (acc + c.toNat % 128 * 128 ^ i, i + 1) else rdN r (i + 1) (acc + c.toNat % 128 * 128 ^ i)

theorem byte_of {k : Nat} (h : k < 256) : (UInt8.ofNat k).toNat = k := by simp; omega

theorem rdN_back (n : Nat) : ∀ (rest : List UInt8) (i acc : Nat), n * 128 ^ i < 2 ^ 64 → i ≤ 9 → (0 < i → 0 < n) → rdN (numF n ++ rest) i acc = some (acc + n * 128 ^ i, i + (numF n).length) := by
  induction n using Nat.strongRecOn with
  | _ n ih =>
    intro rest i acc hn hi hp
    by_cases h : n ≤ 127
    · rw [numF_small h]
      simp only [List.cons_append, List.nil_append, rdN, byte_of (by omega : n < 256), List.length_singleton]
      have h1 : ¬ ((i = 9 ∧ 1 < n) ∨ (0 < i ∧ n = 0)) := by
        rintro (⟨rfl, h2⟩ | ⟨h2, rfl⟩)
        · have : 2 * 128 ^ 9 ≤ n * 128 ^ 9 := Nat.mul_le_mul_right _ h2
          omega
        · exact absurd (hp h2) (by omega)
      rw [if_neg h1, if_pos (by omega), Nat.mod_eq_of_lt (by omega)]
    · rw [numF_big h]
      simp only [List.cons_append, rdN, byte_of (by omega : n % 128 + 128 < 256), List.length_cons]
      have h9 : i ≠ 9 := by
        rintro rfl
        have : 2 * 128 ^ 9 ≤ n * 128 ^ 9 := Nat.mul_le_mul_right _ (by omega)
        omega
      rw [if_neg (by omega), if_neg (by omega)]
      have e1 : n / 128 * 128 ^ (i + 1) ≤ n * 128 ^ i := by
        rw [Nat.pow_succ, Nat.mul_comm (128 ^ i), ← Nat.mul_assoc]
        exact Nat.mul_le_mul_right _ (Nat.div_mul_le_self _ _)
      rw [ih (n / 128) (by omega) rest (i + 1) _ (by omega) (by omega) (fun _ => by omega)]
      have e2 : (n % 128 + 128) % 128 = n % 128 := by omega
      have e3 : n * 128 ^ i = n % 128 * 128 ^ i + n / 128 * 128 ^ (i + 1) := by
        rw [Nat.pow_succ, Nat.mul_comm (128 ^ i), ← Nat.mul_assoc, ← Nat.add_mul]
        congr 1
        omega
      rw [e2, e3]
      simp only [Option.some.injEq, Prod.mk.injEq]
      omega

theorem rdN_cut (n : Nat) : ∀ (k i acc : Nat), k < (numF n).length → rdN ((numF n).take k) i acc = none := by
  induction n using Nat.strongRecOn with
  | _ n ih =>
    intro k i acc hk
    rcases k with _ | k
    · simp [rdN]
    · by_cases h : n ≤ 127
      · rw [numF_small h] at hk
        simp at hk
      · rw [numF_big h] at hk ⊢
        simp only [List.take_succ_cons, rdN, byte_of (by omega : n % 128 + 128 < 256)]
        split
        · rfl
        · rw [if_neg (by omega)]
          exact ih (n / 128) (by omega) k _ _ (by simpa using hk)

theorem rdN_canon : ∀ (l : List UInt8) (i acc v m : Nat), rdN l i acc = some (v, m) → i ≤ 9 → ∃ n, l.take (m - i) = numF n ∧ m = i + (numF n).length ∧ v = acc + n * 128 ^ i ∧ (0 < i → 0 < n) ∧ n * 128 ^ i < 2 ^ 64 ∧ m ≤ 10 ∧ m ≤ i + l.length := by
  intro l
  induction l with
  | nil => intro i acc v m h; simp [rdN] at h
  | cons c r ih =>
    intro i acc v m h hi9
    have hc := c.toNat_lt
    simp only [rdN] at h
    split at h
    · cases h
    · rename_i hg
      split at h
      · rename_i hlt
        simp only [Option.some.injEq, Prod.mk.injEq] at h
        obtain ⟨rfl, rfl⟩ := h
        refine ⟨c.toNat, ?_, ?_, by rw [Nat.mod_eq_of_lt hlt], by omega, ?_, by omega, by simp⟩
        · rw [numF_small (by omega), show i + 1 - i = 1 by omega]
          simp
        · rw [numF_small (by omega)]; simp
        · rcases Nat.lt_or_ge i 9 with h9 | h9
          · have h1 : 128 ^ i ≤ 128 ^ 8 := Nat.pow_le_pow_right (by omega) (by omega)
            have h2 : c.toNat * 128 ^ i ≤ 127 * 128 ^ 8 := Nat.mul_le_mul (by omega) h1
            omega
          · obtain rfl : i = 9 := by omega
            have : c.toNat * 128 ^ 9 ≤ 1 * 128 ^ 9 := Nat.mul_le_mul_right _ (by omega)
            omega
      · rename_i hge
        have h9 : i ≤ 8 := by omega
        obtain ⟨n, h1, h2, h3, h4, h5, h6, h7⟩ := ih (i + 1) _ v m h (by omega)
        have hn := h4 (by omega)
        have em : (c.toNat % 128 + 128 * n) % 128 + 128 = c.toNat := by omega
        have ed : (c.toNat % 128 + 128 * n) / 128 = n := by omega
        have eF : numF (c.toNat % 128 + 128 * n) = c :: numF n := by
          rw [numF_big (by omega), em, ed]
          simp
        have ep : (c.toNat % 128 + 128 * n) * 128 ^ i = c.toNat % 128 * 128 ^ i + n * 128 ^ (i + 1) := by
          rw [Nat.add_mul, Nat.pow_succ, Nat.mul_comm 128 n, Nat.mul_assoc, Nat.mul_comm 128]
        refine ⟨c.toNat % 128 + 128 * n, ?_, ?_, ?_, by omega, ?_, h6, by simp only [List.length_cons]; omega⟩
        · rw [eF, show m - i = (m - (i + 1)) + 1 by omega, List.take_succ_cons, h1]
        · rw [eF, List.length_cons]; omega
        · rw [ep]; omega
        · rw [ep]
          have h1 : c.toNat % 128 * 128 ^ i ≤ 127 * 128 ^ i := Nat.mul_le_mul_right _ (by omega)
          have h2 : n * 128 ^ (i + 1) + 128 ^ (i + 1) ≤ 2 ^ 64 := by
            have hd : (2 : Nat) ^ 64 = 2 ^ (64 - 7 * (i + 1)) * 128 ^ (i + 1) := by
              rw [show (128 : Nat) = 2 ^ 7 by rfl, ← Nat.pow_mul, ← Nat.pow_add]
              congr 1
              omega
            rw [hd] at h5 ⊢
            have := Nat.lt_of_mul_lt_mul_right h5
            rw [← Nat.succ_mul]
            exact Nat.mul_le_mul_right _ this
          have ee : 128 ^ (i + 1) = 128 ^ i * 128 := Nat.pow_succ ..
          rw [ee] at h2 ⊢
          have : 0 < 128 ^ i := Nat.pow_pos (by omega)
          omega
theorem or128 (n : Nat) : (n % 256 ||| 128) = n % 128 + 128 := by
  have h : ∀ m : Fin 256, (m.val ||| 128) = m.val % 128 + 128 := by decide +kernel
  have := h ⟨n % 256, Nat.mod_lt _ (by omega)⟩
  simp only at this
  rw [this]
  omega
theorem and127 (n : Nat) (hn : n < 256) : (n &&& 127) = n % 128 := by
  have h : ∀ m : Fin 256, (m.val &&& 127) = m.val % 128 := by decide +kernel
  exact h ⟨n, hn⟩

/-- A signed number, folded and back. -/
def zig (n : Int) : Nat := if n < 0 then (-2 * n - 1).toNat else (2 * n).toNat
def unzig (u : Nat) : Int := if u % 2 = 1 then -((u / 2 : Nat) : Int) - 1 else ((u / 2 : Nat) : Int)
theorem unzig_zig (n : Int) : unzig (zig n) = n := by
  unfold zig unzig
  split <;> split <;> omega
theorem zig_lt (n : Int) (h0 : -9223372036854775808 ≤ n) (h1 : n ≤ 9223372036854775807) : zig n < 2 ^ 64 := by
  unfold zig; split <;> omega

theorem rdN_bound : ∀ (l : List UInt8) (i acc v m : Nat), rdN l i acc = some (v, m) → acc < 128 ^ i → i ≤ 9 → v < 2 ^ 64 ∧ i < m ∧ m ≤ i + l.length := by
  intro l
  induction l with
  | nil => intro i acc v m h; simp [rdN] at h
  | cons c r ih =>
    intro i acc v m h ha hi9
    have hc := c.toNat_lt
    simp only [rdN] at h
    split at h
    · cases h
    · rename_i hg
      split at h
      · rename_i hlt
        simp only [Option.some.injEq, Prod.mk.injEq] at h
        obtain ⟨rfl, rfl⟩ := h
        refine ⟨?_, by omega, by simp⟩
        rw [Nat.mod_eq_of_lt hlt]
        rcases Nat.lt_or_ge i 9 with h9 | h9
        · have h1 : 128 ^ i ≤ 128 ^ 8 := Nat.pow_le_pow_right (by omega) (by omega)
          have h2 : c.toNat * 128 ^ i ≤ 127 * 128 ^ 8 := Nat.mul_le_mul (by omega) h1
          omega
        · obtain rfl : i = 9 := by omega
          have : c.toNat * 128 ^ 9 ≤ 1 * 128 ^ 9 := Nat.mul_le_mul_right _ (by omega)
          omega
      · rename_i hge
        have h9 : i ≤ 8 := by omega
        have ee : 128 ^ (i + 1) = 128 ^ i * 128 := Nat.pow_succ ..
        have h1 : c.toNat % 128 * 128 ^ i ≤ 127 * 128 ^ i := Nat.mul_le_mul_right _ (by omega)
        have := ih (i + 1) _ v m h (by rw [ee]; omega) (by omega)
        simp only [List.length_cons]
        omega
theorem numF_len : ∀ (k n : Nat), n < 128 ^ (k + 1) → (numF n).length ≤ k + 1 := by
  intro k
  induction k with
  | zero => intro n h; rw [numF_small (by omega)]; simp
  | succ k ih =>
    intro n h
    by_cases hn : n ≤ 127
    · rw [numF_small hn]; simp
    · rw [numF_big hn, List.length_cons]
      have := ih (n / 128) (by rw [Nat.pow_succ 128 (k + 1)] at h; omega)
      omega
theorem numF_len10 (n : Nat) (h : n < 2 ^ 64) : (numF n).length ≤ 10 := numF_len 9 n (by omega)

theorem byte_info : (Tryz.prog.info? 5).map (fun i => (i.zero, i.size, i.bytes)) = some (some (.int .u8 0), 1, 1) := by kernel_rfl
theorem u8s_one (ds : List UInt8) : ∀ u ∈ U8s ds, u.oneCell' = true := by
  intro u hu
  simp [U8s, U8] at hu
  obtain ⟨x, _, rfl⟩ := hu
  rfl
theorem u8s_snoc (ds : List UInt8) (x : UInt8) : U8s ds ++ [.int .u8 x.toNat] = U8s (ds ++ [x]) := by simp [U8s, U8]
theorem u8s_append (a b : List UInt8) : U8s a ++ U8s b = U8s (a ++ b) := by simp [U8s]

/-- append(s, x) at a slice of one's own. -/
theorem app_one (B : Nat) (A : Option Addr) (n c : Nat) (bs : List UInt8) (x : UInt8) (y : Int) (hy : y = x.toNat) (w : World) (hrow : w.ownsRow B 5 1 (.slice A n c) n (U8s bs)) (hn : n + 1 ≤ 140737488355328) (hB : B ≤ w.heap.size) :
    ∃ (g' cap' : Nat) (w2 : World), (AppH #[33, 33] 33 #[.slice A n c, .slice (some ⟨w.heap.size, 0, none⟩) 1 1]).run Tryz.prog (w.alloc (.cells #[.int .u8 y] 5)) = .ok (.slice (some ⟨g', 0, none⟩) (n + 1) cap') w2 ∧
      w2.ownsRow B 5 1 (.slice (some ⟨g', 0, none⟩) (n + 1) cap') (n + 1) (U8s (bs ++ [x])) ∧ Only (blkOf A) w w2 ∧ (g' ∈ blkOf A ∨ w.heap.size ≤ g') := by
  subst hy
  obtain ⟨i0, hi, hz0, hz1, hz2⟩ := info_parts byte_info
  obtain ⟨g', cap', w2, hr2, h2, o2, hgg⟩ := append_at (P := Tryz.prog) (w.alloc (.cells #[.int .u8 x.toNat] 5)) B 33 33 5 i0 (.int .u8 0) 1 1 Tryz.underlying33 hi hz0 hz1 hz2 rfl (by omega) A n c (U8s bs) (hrow.alloc _)
    ⟨w.heap.size, 0, none⟩ 1 1 [.int .u8 x.toNat] rfl (fun j u hj => by
      have := (Blk.new w 5 #[.int .u8 x.toNat]).cell j
      rw [add_mk, Nat.zero_add, this, List.getElem?_toArray]
      exact hj) (by simp [Value.oneCell']) (.inl (by omega)) (by unfold maxLen; omega) (by omega) (by simp; omega)
  rw [u8s_snoc] at h2
  refine ⟨g', cap', w2, hr2, h2, ((Only.refl _ w).alloc _).trans o2 (fun x hx => .inl hx), ?_⟩
  rcases hgg with h | h
  · exact .inl h
  · exact .inr (by rw [h]; simp)

/-- What a fresh slice of bytes is. -/
def Fresh (w : World) (bs : List UInt8) (e : Ending) (w' : World) : Prop := Only [] w w' ∧ ∃ (g c : Nat), e = .returned (.slice (some ⟨g, 0, none⟩) bs.length c) ∧ w'.ownsRow w.heap.size 5 1 (.slice (some ⟨g, 0, none⟩) bs.length c) bs.length (U8s bs)

attribute [local go_sem ↓] app_hide

theorem byte_low (m : Nat) (h : m ≤ 127) : ((UInt8.ofNat m).toNat : Int) = m := by rw [byte_of (by omega)]
/-- make([]byte, 0, k). -/
theorem run_made (k : Nat) (z : Int) (hz : z = (k : Int)) (hk : k ≤ 140737488355328) (W : World) : (Instr.makeSlice 33 (.int .i64 0) (.int .i64 z)).run Tryz.prog W = .ok (.slice (some ⟨W.heap.size, 0, none⟩) 0 k) (W.alloc (.cells (madeCells #[.int .u8 0] k) 5)) := by
  subst hz
  obtain ⟨i0, hi, hz0, hz1, hz2⟩ := info_parts byte_info
  have h := run_make (P := Tryz.prog) W 33 5 i0 (.int .u8 0) Tryz.underlying33 hi hz0 .i64 .i64 0 k (by omega) (by omega) (by rw [hz2]; omega) (by omega)
  rw [hz1] at h
  simpa [Value.cells] using h
theorem own_made (B k : Nat) (hk : k ≤ maxLen) (W : World) (hB : B ≤ W.heap.size) : (W.alloc (.cells (madeCells #[.int .u8 0] k) 5)).ownsRow B 5 1 (.slice (some ⟨W.heap.size, 0, none⟩) 0 k) 0 (U8s []) := by
  have h := own_of_block (base := B) (n := 0) (cap := k) (cur := (madeCells #[.int .u8 0] k).toList) (by simpa using Blk.new W 5 (madeCells #[.int .u8 0] k)) (by rw [toList_madeCells_one]; simp) (Nat.zero_le _) hk hB
  simpa [U8s] using h

theorem low7 (m : Nat) : bits .or .u8 ((m : Int) % 256) 128 = ((UInt8.ofNat (m % 128 + 128)).toNat : Int) := by
  rw [byte_of (by omega), show ((m : Int) % 256) = ((m % 256 : Nat) : Int) from by omega, show (128 : Int) = ((128 : Nat) : Int) from rfl, u8_or_nat _ _ (by omega) (by omega), or128]
theorem low7' (m : Nat) : (m : Int) % 128 + 128 = ((UInt8.ofNat (m % 128 + 128)).toNat : Int) := by
  rw [byte_of (by omega)]; omega
theorem low8 (m : Nat) (h : m ≤ 127) : (m : Int) = ((UInt8.ofNat m).toNat : Int) := by
  rw [byte_of (by omega)]

set_option maxHeartbeats 1000000 in
theorem number_any (n : Nat) (hn : n < 2 ^ 64) (w : World) : Calls Tryz.prog 49 #[.int .u64 n] w (Fresh w (numF n)) := by
  have hmk := run_made 10 10 rfl (by omega) w
  go_enter Tryz.func49, Tryz.ntmps49
  go_wp2_with fail
  clear hmk
  go_loopw [0, 3] (fun vn vb wr => ∃ (m c : Nat) (A : Option Addr) (done : List UInt8), vn = .int .u64 m ∧ vb = .slice A done.length c ∧ Hid (numF n = done ++ numF m) ∧ m < 2 ^ 64 ∧ Only [] w wr ∧ Hid (wr.ownsRow w.heap.size 5 1 (.slice A done.length c) done.length (U8s done))) (fun vn _ _ => (intOf vn).toNat)
  case atStart => exact ⟨n, 10, _, [], rfl, rfl, hide rfl, hn, (Only.refl _ _).alloc _, hide (own_made _ _ (by unfold maxLen; omega) w (Nat.le_refl _))⟩
  case round =>
    obtain ⟨m, c, A, done, rfl, rfl, hF, hm, hO, hrow⟩ := hrel
    have hsz := hO.size
    have hlen : done.length ≤ 10 := by
      have h1 := numF_len10 n hn
      rw [hF.out, List.length_append] at h1
      omega
    by_cases hbig : 127 < m
    · have i1 : (127 : Int) < (m : Int) := by omega
      obtain ⟨g', c', w2, hrun, hrow2, ho, hgg⟩ := app_one w.heap.size A done.length c done (UInt8.ofNat (m % 128 + 128)) _ (low7 m) wr hrow.out (by omega) hsz
      have hO2 : Only [] w w2 := hO.trans ho (fun x hx => .inr (own_ge hrow.out x hx).1)
      have hR := hide hrow2
      have hF2 : Hid (numF n = (done ++ [UInt8.ofNat (m % 128 + 128)]) ++ numF (m / 128)) := hide (by rw [hF.out, numF_big (by omega)]; simp)
      clear hrow2 hgg
      go_wp2_with fail
      go_roundw
      case rel => exact ⟨m / 128, c', some ⟨g', 0, none⟩, done ++ [UInt8.ofNat (m % 128 + 128)], by go_num, by simp, hF2, by omega, hO2, by simpa using hR⟩
      case measure => simp [intOf]; omega
    · have i1 : ¬ (127 : Int) < (m : Int) := by omega
      obtain ⟨g', c', w2, hrun, hrow2, ho, hgg⟩ := app_one w.heap.size A done.length c done (UInt8.ofNat m) _ (low8 m (by omega)) wr hrow.out (by omega) hsz
      have hO2 : Only [] w w2 := hO.trans ho (fun x hx => .inr (own_ge hrow.out x hx).1)
      have hR := hide hrow2
      have hF2 : Hid (numF n = done ++ [UInt8.ofNat m]) := hide (by rw [hF.out, numF_small (by omega)])
      clear hrow2 hgg
      go_wp2_with fail
      go_ret
      refine ⟨hO2, g', c', by rw [hF2.out]; simp, ?_⟩
      rw [hF2.out]
      simpa using hR.out

set_option maxHeartbeats 1000000 in
theorem rnumber_any (n : Nat) (hn : n < 2 ^ 64) (w : World) : Calls Tryz.prog 53 #[.int .u64 n] w (Fresh w (numF n)) := by
  go_enter Tryz.func53, Tryz.ntmps53
  go_wp2_with fail
  go_loopw [0, 3] (fun vn vb wr => ∃ (m c : Nat) (A : Option Addr) (done : List UInt8), vn = .int .u64 m ∧ vb = .slice A done.length c ∧ Hid (numF n = done ++ numF m) ∧ m < 2 ^ 64 ∧ Only [] w wr ∧ Hid (wr.ownsRow w.heap.size 5 1 (.slice A done.length c) done.length (U8s done))) (fun vn _ _ => (intOf vn).toNat)
  case atStart => exact ⟨n, 0, none, [], rfl, rfl, hide rfl, hn, Only.refl _ _, hide ⟨rfl, .inl ⟨rfl, rfl⟩⟩⟩
  case round =>
    obtain ⟨m, c, A, done, rfl, rfl, hF, hm, hO, hrow⟩ := hrel
    have hsz := hO.size
    have hlen : done.length ≤ 10 := by
      have h1 := numF_len10 n hn
      rw [hF.out, List.length_append] at h1
      omega
    by_cases hbig : 127 < m
    · have i1 : (127 : Int) < (m : Int) := by omega
      obtain ⟨g', c', w2, hrun, hrow2, ho, hgg⟩ := app_one w.heap.size A done.length c done (UInt8.ofNat (m % 128 + 128)) _ (low7' m) wr hrow.out (by omega) hsz
      have hO2 : Only [] w w2 := hO.trans ho (fun x hx => .inr (own_ge hrow.out x hx).1)
      have hR := hide hrow2
      have hF2 : Hid (numF n = (done ++ [UInt8.ofNat (m % 128 + 128)]) ++ numF (m / 128)) := hide (by rw [hF.out, numF_big (by omega)]; simp)
      clear hrow2 hgg
      go_wp2_with fail
      go_roundw
      case rel => exact ⟨m / 128, c', some ⟨g', 0, none⟩, done ++ [UInt8.ofNat (m % 128 + 128)], by go_num, by simp, hF2, by omega, hO2, by simpa using hR⟩
      case measure => simp [intOf]; omega
    · have i1 : ¬ (127 : Int) < (m : Int) := by omega
      obtain ⟨g', c', w2, hrun, hrow2, ho, hgg⟩ := app_one w.heap.size A done.length c done (UInt8.ofNat m) _ (low8 m (by omega)) wr hrow.out (by omega) hsz
      have hO2 : Only [] w w2 := hO.trans ho (fun x hx => .inr (own_ge hrow.out x hx).1)
      have hR := hide hrow2
      have hF2 : Hid (numF n = done ++ [UInt8.ofNat m]) := hide (by rw [hF.out, numF_small (by omega)])
      clear hrow2 hgg
      go_wp2_with fail
      go_ret
      refine ⟨hO2, g', c', by rw [hF2.out]; simp, ?_⟩
      rw [hF2.out]
      simpa using hR.out

end Go.Proofs.YtmaljajdmgkakaaGreatDoor
