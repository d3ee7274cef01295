/- Spans: what stays as it was laid (the table of powers of ten, MaxLen), and the walk of Text. Condition: Env. -/
import Derived.Test.YtcocjjapmmpgaaaDoorSp4
import Derived.Test.YtcocjjapmmpgaaaDoorShelf
namespace Go.Proofs.YtcocjjapmmpgaaaDoor
open Go.RowKit Go.BigFrame
set_option linter.unusedVariables false
set_option linter.all false
set_option maxRecDepth 20000

structure Env (w : World) : Prop where
  tab : Lib.TabIs Tryd.prog w "internal/strconv.uint64pow10" .u64 Lib.pow10Tab
  len : ∃ m, w.cell? ⟨0, 0, none⟩ = some (.int .i64 m)
theorem tab_only {w w' : World} (h : Lib.TabIs Tryd.prog w "internal/strconv.uint64pow10" .u64 Lib.pow10Tab) (o : Only [] w w') : Lib.TabIs Tryd.prog w' "internal/strconv.uint64pow10" .u64 Lib.pow10Tab := by
  have hg : Tryd.prog.globalNamed "internal/strconv.uint64pow10" = some 1 := by kernel_rfl
  unfold Lib.TabIs World.var? at h ⊢
  rw [hg] at h ⊢
  simp only [Option.bind_some] at h ⊢
  have hl : 1 < w.heap.size := by
    rcases Nat.lt_or_ge 1 w.heap.size with q | q
    · exact q
    · rw [Array.getElem?_eq_none q] at h; simp at h
  rw [o.block 1 hl (by simp)]
  exact h
theorem Env.only {w w' : World} (h : Env w) (o : Only [] w w') : Env w' := ⟨tab_only h.tab o, by obtain ⟨m, hm⟩ := h.len; exact ⟨m, o.keep0 hm⟩⟩
theorem only_grow (w : World) (k : Nat) (os : Array Obj) : Only [] w (Go.Sort.grow (w.drewN k) os) := by
  refine ⟨rfl, rfl, rfl, ?_, ?_⟩
  · show w.heap.size ≤ (w.heap ++ os).size
    simp
  · intro k hk _
    show (w.heap ++ os)[k]? = w.heap[k]?
    rw [Array.getElem?_append_left hk]
theorem format_any (n : Int) (h0 : -9223372036854775808 ≤ n) (h1 : n ≤ 9223372036854775807) (w : World) (htab : Lib.TabIs Tryd.prog w "internal/strconv.uint64pow10" .u64 Lib.pow10Tab) :
    Calls Tryd.prog 35 #[.int .i64 n, .int .i64 10] w fun e w' => e = .returned (.string ⟨(Lib.itoa n).toArray⟩) ∧ Only [] w w' :=
  (Tryd.strconv_FormatInt_10 n h0 h1 w htab).mono fun e w' ⟨he, k, os, hw⟩ => ⟨he, hw ▸ only_grow w k os⟩

/-! ## How long a numeral is -/
theorem dig_len (k u : Nat) (h : u < 10 ^ (k + 1)) : (Lib.decDigits u).length ≤ k + 1 := by
  rw [Lib.decDigits_length]
  induction k generalizing u with
  | zero => rw [Lib.nDigits_small (by omega)]; omega
  | succ k ih =>
    by_cases hu : u < 10
    · rw [Lib.nDigits_small hu]; omega
    · rw [Lib.nDigits_big hu]
      have := ih (u / 10) (by rw [Nat.pow_succ] at h; omega)
      omega
theorem dig_pos (u : Nat) : 1 ≤ (Lib.decDigits u).length := by rw [Lib.decDigits_length]; exact Lib.nDigits_pos u
theorem itoa_nat {n : Int} (h : 0 ≤ n) : Lib.itoa n = Lib.decDigits n.toNat := by unfold Lib.itoa; rw [if_neg (by omega)]
theorem itoa_len {n : Int} (h : 0 ≤ n) (h1 : n < 10000000000) : 1 ≤ (Lib.itoa n).length ∧ (Lib.itoa n).length ≤ 10 := by
  rw [itoa_nat h]
  exact ⟨dig_pos _, dig_len 9 _ (by omega)⟩
/-- A span's text. -/
def textN (s n : Int) : List UInt8 := Lib.itoa s ++ 46 :: (Lib.itoa (1000000000 + n)).drop 1
def textR (s n : Int) (e : Ending) : Prop := e = if mayN s n then .returned (.tuple #[.string ⟨(textN s n).toArray⟩, .int .i64 0]) else .returned (.tuple #[.string ⟨#[]⟩, .int .i64 2])
theorem str_join (a b : List UInt8) : (⟨a.toArray⟩ : ByteArray) ++ ⟨#[46]⟩ ++ ByteArray.extract ⟨b.toArray⟩ 1 b.length = ⟨(a ++ 46 :: b.drop 1).toArray⟩ := by
  apply ByteArray.ext
  simp [ByteArray.data_append, ByteArray.data_extract]
  exact List.take_of_length_le (by simp)
set_option maxHeartbeats 2000000 in
theorem text_any (s n : Int) (w : World) (henv : Env w) : Calls Tryd.prog 27 #[.agg #[.int .i64 s, .int .i64 n]] w fun e w' => textR s n e ∧ Only [] w w' := by
  have C1 := fun W => may15 s n W
  have mk2 : True := trivial
  cases h1 : mayN s n
  · simp only [h1] at C1
    have K1 := hide C1
    clear C1
    have hR : textR s n (.returned (.tuple #[.string ⟨#[]⟩, .int .i64 2])) := by unfold textR; rw [h1]; rfl
    clear h1
    go_enter Tryd.func27, Tryd.ntmps27
    go_wp2_with (first
      | (go_at_call 15; refine (K1.out _).mono ?_; rintro e w' ⟨rfl, rfl⟩))
    exact bodyPost_ret (v := .tuple #[.string ⟨#[]⟩, .int .i64 2]) (by simp [results, Tryd.results27, go_sem]) rfl ⟨hR, (by repeat (first | exact Only.refl _ _ | refine Only.alloc ?_ _))⟩
  have b := may_iff.1 h1
  simp only [h1] at C1
  have K1 := hide C1
  clear C1
  have w1 : IntKind.i64.wrap (1000000000 + n) = 1000000000 + n := IntWalk.i64_in _ (by omega)
  have hA := itoa_len b.1 (by omega)
  have hB := itoa_len (n := 1000000000 + n) (by omega) (by omega)
  obtain ⟨A, eA⟩ : ∃ A, A = Lib.itoa s := ⟨_, rfl⟩
  obtain ⟨B, eB⟩ : ∃ B, B = Lib.itoa (1000000000 + n) := ⟨_, rfl⟩
  have F1 : Hid (∀ W, Lib.TabIs Tryd.prog W "internal/strconv.uint64pow10" .u64 Lib.pow10Tab → Calls Tryd.prog 35 #[.int .i64 s, .int .i64 10] W fun e w' => e = .returned (.string ⟨A.toArray⟩) ∧ Only [] W w') := hide (by rw [eA]; exact fun W => format_any s (by omega) (by omega) W)
  have F2 : Hid (∀ W, Lib.TabIs Tryd.prog W "internal/strconv.uint64pow10" .u64 Lib.pow10Tab → Calls Tryd.prog 35 #[.int .i64 (1000000000 + n), .int .i64 10] W fun e w' => e = .returned (.string ⟨B.toArray⟩) ∧ Only [] W w') := hide (by rw [eB]; exact fun W => format_any (1000000000 + n) (by omega) (by omega) W)
  have hR : textR s n (.returned (.tuple #[.string ⟨(A ++ 46 :: B.drop 1).toArray⟩, .int .i64 0])) := by unfold textR textN; rw [h1, eA, eB]; rfl
  rw [← eA] at hA
  rw [← eB] at hB
  have p1 := (((Blk.new w 23 #[.int .i64 s, .int .i64 n])).alloc (.cells #[.int .i64 s, .int .i64 n] 23)).drew
  obtain ⟨k0, k1, _, _, _⟩ := cell_of_only p1 (Only.refl [] _)
  have oo : Only [] w w := Only.refl _ _
  replace oo := oo.alloc (.cells #[.int .i64 s, .int .i64 n] 23)
  replace oo := oo.alloc (.cells #[.int .i64 s, .int .i64 n] 23)
  replace oo := oo.drew
  have htab := tab_only henv.tab oo
  have hs1 : (⟨A.toArray⟩ : ByteArray).size = A.length := by simp [ByteArray.size]
  have hs2 : (⟨B.toArray⟩ : ByteArray).size = B.length := by simp [ByteArray.size]
  clear eA eB h1 henv
  go_enter Tryd.func27, Tryd.ntmps27
  go_wp2_with (first
    | (go_at_call 15; refine (K1.out _).mono ?_; rintro e w' ⟨rfl, rfl⟩))
  have g0 : ∀ V : Sub _, V.val.cell? ⟨w.heap.size, 0, none⟩ = some (.int .i64 s) := fun V => (cell_of_only p1 V.ok).1
  have g1 : ∀ V : Sub _, V.val.cell? ⟨w.heap.size, 1, none⟩ = some (.int .i64 n) := fun V => (cell_of_only p1 V.ok).2.1
  refine wp_region_quiet_sub (by kernel_rfl) (by kernel_rfl) ?_
  repeat (go_big_quiet_step (first
    | (go_at_call 35; first | with_reducible exact quiet_sub (F1.out _ (tab_only htab (Sub.ok _))) | with_reducible exact quiet_sub (F2.out _ (tab_only htab (Sub.ok _))))))
  refine wpQuiet_nil ?_
  rintro _ ⟨V, rfl⟩
  replace oo := oo.trans0 V.ok
  all_goals go_wp2_with fail
  all_goals rw [str_join]
  all_goals exact bodyPost_ret (v := .tuple #[.string ⟨(A ++ 46 :: B.drop 1).toArray⟩, .int .i64 0]) (by simp [results, Tryd.results27, go_sem]) rfl ⟨hR, oo⟩
end Go.Proofs.YtcocjjapmmpgaaaDoor
