/- Spans: known, walked: it answers true. Condition: Env. -/
import Derived.Test.YtcocjjapmmpgaaaDoorSp7
import Derived.BigQuiet
namespace Go.Proofs.YtcocjjapmmpgaaaDoor
open Go.RowKit Go.BigFrame
set_option linter.unusedVariables false
set_option linter.all false
set_option maxRecDepth 100000

/-- A span stored in a new block. -/
theorem only_store (W : World) (u v : Value) : Only [] W (W.alloc (.cells #[u, v] 23)) := (Only.refl [] W).alloc _
theorem blk_store (W : World) (u v : Value) : Blk (W.alloc (.cells #[u, v] 23)) W.heap.size 23 #[u, v] := Blk.new W 23 #[u, v]
theorem text_len {s n : Int} (h : mayN s n = true) : 11 ≤ (textN s n).length := by
  have b := may_iff.1 h
  unfold textN
  have h1 := itoa_len b.1 (by omega)
  have h2 : (Lib.itoa (1000000000 + n)).length = 10 := by
    rw [itoa_nat (by omega), Lib.decDigits_length, Lib.nDigits_unique 9 _ (by omega) (by omega)]
  simp only [List.length_append, List.length_cons, List.length_drop, h2]
  omega
theorem parse_15 : parseN [49, 46, 53] = (0, 0, 4) := by
  unfold parseN finN
  rw [if_neg (by decide), if_neg]
  rintro ⟨h1, h2⟩
  have := text_len h1
  rw [h2] at this
  simp at this
theorem text_15 : textN 1 500000000 = [49, 46, 53, 48, 48, 48, 48, 48, 48, 48, 48] := by
  unfold textN
  rw [itoa_nat (by decide), itoa_nat (by decide)]
  simp [Lib.decDigits]
theorem parse_015 : parseN [48, 49, 46, 53, 48, 48, 48, 48, 48, 48, 48, 48] = (0, 0, 4) := by
  have he : eats (Lib.cut [48, 49, 46, 53, 48, 48, 48, 48, 48, 48, 48, 48] [46]).1 (Lib.cut [48, 49, 46, 53, 48, 48, 48, 48, 48, 48, 48, 48] [46]).2.1 = (1, 500000000) := by decide
  unfold parseN finN
  rw [if_neg (by decide), he, if_neg]
  rintro ⟨h1, h2⟩
  rw [text_15] at h2
  simp at h2

set_option maxHeartbeats 8000000 in
theorem known_any (w : World) (henv : Env w) : Calls Tryd.prog 20 #[] w fun e w' => e = .returned (.bool true) ∧ Only [] w w' := by
  have H1 : Hid (∀ W, Calls Tryd.prog 32 #[.int .i64 1] W fun e w' => e = .returned (.agg #[.int .i64 1, .int .i64 500000000]) ∧ Only [] W w') := hide (half_any 1)
  have H4 : Hid (∀ W, Calls Tryd.prog 32 #[.int .i64 4] W fun e w' => e = .returned (.agg #[.int .i64 4, .int .i64 500000000]) ∧ Only [] W w') := hide (half_any 4)
  have A1 : Hid (∀ W, Calls Tryd.prog 9 #[.agg #[.int .i64 1, .int .i64 500000000], .agg #[.int .i64 0, .int .i64 600000000]] W fun e w' => e = .returned (.tuple #[.agg #[.int .i64 (2), .int .i64 (100000000)], .int .i64 (0)]) ∧ Only [] W w') := hide (fun W => (add_any 1 500000000 0 600000000 W).mono fun e w' ⟨he, ho⟩ => ⟨by unfold spE at he; rw [he, show addN 1 500000000 0 600000000 = (2, 100000000, 0) by decide], ho⟩)
  have B1 : Hid (∀ W, Calls Tryd.prog 11 #[.agg #[.int .i64 1, .int .i64 0], .agg #[.int .i64 0, .int .i64 1]] W fun e w' => e = .returned (.tuple #[.agg #[.int .i64 (0), .int .i64 (999999999)], .int .i64 (0)]) ∧ Only [] W w') := hide (fun W => (sub_any 1 0 0 1 W).mono fun e w' ⟨he, ho⟩ => ⟨by unfold spE at he; rw [he, show subN 1 0 0 1 = (0, 999999999, 0) by decide], ho⟩)
  have B2 : Hid (∀ W, Calls Tryd.prog 11 #[.agg #[.int .i64 1, .int .i64 0], .agg #[.int .i64 2, .int .i64 0]] W fun e w' => e = .returned (.tuple #[.agg #[.int .i64 (0), .int .i64 (0)], .int .i64 (2)]) ∧ Only [] W w') := hide (fun W => (sub_any 1 0 2 0 W).mono fun e w' ⟨he, ho⟩ => ⟨by unfold spE at he; rw [he, show subN 1 0 2 0 = (0, 0, 2) by decide], ho⟩)
  have T1 : Hid (∀ W, Calls Tryd.prog 21 #[.agg #[.int .i64 0, .int .i64 1]] W fun e w' => e = .returned (.tuple #[.int .i64 (1), .int .i64 (0)]) ∧ Only [] W w') := hide (fun W => (ticks_any 0 1 W).mono fun e w' ⟨he, ho⟩ => ⟨by unfold inE at he; rw [he, show ticksN 0 1 = (1, 0) by decide], ho⟩)
  have T2 : Hid (∀ W, Calls Tryd.prog 21 #[.agg #[.int .i64 0, .int .i64 1000000]] W fun e w' => e = .returned (.tuple #[.int .i64 (1), .int .i64 (0)]) ∧ Only [] W w') := hide (fun W => (ticks_any 0 1000000 W).mono fun e w' ⟨he, ho⟩ => ⟨by unfold inE at he; rw [he, show ticksN 0 1000000 = (1, 0) by decide], ho⟩)
  have T3 : Hid (∀ W, Calls Tryd.prog 21 #[.agg #[.int .i64 1, .int .i64 1000100]] W fun e w' => e = .returned (.tuple #[.int .i64 (1002), .int .i64 (0)]) ∧ Only [] W w') := hide (fun W => (ticks_any 1 1000100 W).mono fun e w' ⟨he, ho⟩ => ⟨by unfold inE at he; rw [he, show ticksN 1 1000100 = (1002, 0) by decide], ho⟩)
  have T4 : Hid (∀ W, Calls Tryd.prog 21 #[.agg #[.int .i64 0, .int .i64 0]] W fun e w' => e = .returned (.tuple #[.int .i64 (0), .int .i64 (0)]) ∧ Only [] W w') := hide (fun W => (ticks_any 0 0 W).mono fun e w' ⟨he, ho⟩ => ⟨by unfold inE at he; rw [he, show ticksN 0 0 = (0, 0) by decide], ho⟩)
  have T5 : Hid (∀ W, Calls Tryd.prog 21 #[.agg #[.int .i64 2147483647, .int .i64 0]] W fun e w' => e = .returned (.tuple #[.int .i64 (0), .int .i64 (5)]) ∧ Only [] W w') := hide (fun W => (ticks_any 2147483647 0 W).mono fun e w' ⟨he, ho⟩ => ⟨by unfold inE at he; rw [he, show ticksN 2147483647 0 = (0, 5) by decide], ho⟩)
  have O1 : Hid (∀ W, Calls Tryd.prog 23 #[.int .i64 1500] W fun e w' => e = .returned (.tuple #[.agg #[.int .i64 (1), .int .i64 (500000000)], .int .i64 (0)]) ∧ Only [] W w') := hide (fun W => (ofT_any 1500 W).mono fun e w' ⟨he, ho⟩ => ⟨by unfold spE at he; rw [he, show ofTN 1500 = (1, 500000000, 0) by decide], ho⟩)
  have O2 : Hid (∀ W, Calls Tryd.prog 23 #[.int .i64 1099511627777] W fun e w' => e = .returned (.tuple #[.agg #[.int .i64 (0), .int .i64 (0)], .int .i64 (2)]) ∧ Only [] W w') := hide (fun W => (ofT_any 1099511627777 W).mono fun e w' ⟨he, ho⟩ => ⟨by unfold spE at he; rw [he, show ofTN 1099511627777 = (0, 0, 2) by decide], ho⟩)
  have M1 : Hid (∀ W, Calls Tryd.prog 13 #[.agg #[.int .i64 1, .int .i64 500000000], .int .i64 3] W fun e w' => e = .returned (.tuple #[.agg #[.int .i64 (4), .int .i64 (500000000)], .int .i64 (0)]) ∧ Only [] W w') := hide (fun W => (times_any 1 500000000 3 (by decide) (by decide) W).mono fun e w' ⟨he, ho⟩ => ⟨by unfold spE at he; rw [he, show timesN 1 500000000 3 = (4, 500000000, 0) by decide], ho⟩)
  have X1 : Hid (∀ W, Env W → Calls Tryd.prog 27 #[.agg #[.int .i64 1, .int .i64 500000000]] W fun e w' => e = .returned (.tuple #[.string ⟨#[49, 46, 53, 48, 48, 48, 48, 48, 48, 48, 48]⟩, .int .i64 0]) ∧ Only [] W w') := hide (fun W hE => (text_any 1 500000000 W hE).mono fun e w' ⟨he, ho⟩ => ⟨by unfold textR at he; rw [if_pos (by decide), text_15] at he; exact he, ho⟩)
  have P1 : Hid (∀ W, Env W → Calls Tryd.prog 25 #[.string ⟨#[49, 46, 53]⟩] W fun e w' => e = .returned (.tuple #[.agg #[.int .i64 0, .int .i64 0], .int .i64 4]) ∧ Only [] W w') := hide (fun W hE => (parse_any ⟨#[49, 46, 53]⟩ W hE).mono fun e w' ⟨he, ho⟩ => ⟨by unfold spE at he; rw [he, show (ByteArray.mk #[49, 46, 53]).data.toList = [49, 46, 53] from rfl, parse_15], ho⟩)
  have P2 : Hid (∀ W, Env W → Calls Tryd.prog 25 #[.string ⟨#[48, 49, 46, 53, 48, 48, 48, 48, 48, 48, 48, 48]⟩] W fun e w' => e = .returned (.tuple #[.agg #[.int .i64 0, .int .i64 0], .int .i64 4]) ∧ Only [] W w') := hide (fun W hE => (parse_any ⟨#[48, 49, 46, 53, 48, 48, 48, 48, 48, 48, 48, 48]⟩ W hE).mono fun e w' ⟨he, ho⟩ => ⟨by unfold spE at he; rw [he, show (ByteArray.mk #[48, 49, 46, 53, 48, 48, 48, 48, 48, 48, 48, 48]).data.toList = [48, 49, 46, 53, 48, 48, 48, 48, 48, 48, 48, 48] from rfl, parse_015], ho⟩)
  have mk32_0 : True := trivial
  have mk11_0 : True := trivial
  have mk21_0 : True := trivial
  have mk21_1 : True := trivial
  have mk21_2 : True := trivial
  have mk21_3 : True := trivial
  have mk23_0 : True := trivial
  have mk25_0 : True := trivial
  have OO := Only.refl [] w
  go_enter Tryd.func20, Tryd.ntmps20
  go_wp2_with (first
    | (go_at_call 32; first | (clear mk32_0; refine (H1.out _).mono ?_; rintro e w1 ⟨rfl, o⟩; have OO := OO.trans0 o; clear o) | (refine (H1.out _).mono ?_; rintro e w15 ⟨rfl, o⟩; have L1 := L1.only (only_store w14 (.int .i64 (0)) (.int .i64 (0))) (by simp); have L2 := L2.only (only_store w14 (.int .i64 (0)) (.int .i64 (0))) (by simp); have L3 := L3.only (only_store w14 (.int .i64 (0)) (.int .i64 (0))) (by simp); have OO := OO.trans0 (only_store w14 (.int .i64 (0)) (.int .i64 (0))); have L1 := L1.only o (by simp); have L2 := L2.only o (by simp); have L3 := L3.only o (by simp); have OO := OO.trans0 o; clear o))
    | (go_at_call 9; refine (A1.out _).mono ?_; rintro e w2 ⟨rfl, o⟩; have OO := OO.trans0 o; clear o)
    | (go_at_call 11; first | (clear mk11_0; refine (B1.out _).mono ?_; rintro e w3 ⟨rfl, o⟩; have OO := OO.trans0 (only_store w2 (.int .i64 (2)) (.int .i64 (100000000))); have L1 := blk_store w2 (.int .i64 (2)) (.int .i64 (100000000)); have L1 := L1.only o (by simp); have OO := OO.trans0 o; clear o) | (refine (B2.out _).mono ?_; rintro e w4 ⟨rfl, o⟩; have L1 := L1.only (only_store w3 (.int .i64 (0)) (.int .i64 (999999999))) (by simp); have OO := OO.trans0 (only_store w3 (.int .i64 (0)) (.int .i64 (999999999))); have L2 := blk_store w3 (.int .i64 (0)) (.int .i64 (999999999)); have L1 := L1.only o (by simp); have L2 := L2.only o (by simp); have OO := OO.trans0 o; clear o))
    | (go_at_call 21; first | (clear mk21_0; refine (T1.out _).mono ?_; rintro e w5 ⟨rfl, o⟩; have L1 := L1.only (only_store w4 (.int .i64 (0)) (.int .i64 (0))) (by simp); have L2 := L2.only (only_store w4 (.int .i64 (0)) (.int .i64 (0))) (by simp); have OO := OO.trans0 (only_store w4 (.int .i64 (0)) (.int .i64 (0))); have L1 := L1.only o (by simp); have L2 := L2.only o (by simp); have OO := OO.trans0 o; clear o) | (clear mk21_1; refine (T2.out _).mono ?_; rintro e w6 ⟨rfl, o⟩; have L1 := L1.only o (by simp); have L2 := L2.only o (by simp); have OO := OO.trans0 o; clear o) | (clear mk21_2; refine (T3.out _).mono ?_; rintro e w7 ⟨rfl, o⟩; have L1 := L1.only o (by simp); have L2 := L2.only o (by simp); have OO := OO.trans0 o; clear o) | (clear mk21_3; refine (T4.out _).mono ?_; rintro e w8 ⟨rfl, o⟩; have L1 := L1.only o (by simp); have L2 := L2.only o (by simp); have OO := OO.trans0 o; clear o) | (refine (T5.out _).mono ?_; rintro e w13 ⟨rfl, o⟩; have L1 := L1.only (only_store w12 (.int .i64 (0)) (.int .i64 (0))) (by simp); have L2 := L2.only (only_store w12 (.int .i64 (0)) (.int .i64 (0))) (by simp); have L3 := L3.only (only_store w12 (.int .i64 (0)) (.int .i64 (0))) (by simp); have OO := OO.trans0 (only_store w12 (.int .i64 (0)) (.int .i64 (0))); have L1 := L1.only o (by simp); have L2 := L2.only o (by simp); have L3 := L3.only o (by simp); have OO := OO.trans0 o; clear o))
    | (go_at_call 23; first | (clear mk23_0; refine (O1.out _).mono ?_; rintro e w9 ⟨rfl, o⟩; have L1 := L1.only o (by simp); have L2 := L2.only o (by simp); have OO := OO.trans0 o; clear o) | (refine (O2.out _).mono ?_; rintro e w14 ⟨rfl, o⟩; have L1 := L1.only o (by simp); have L2 := L2.only o (by simp); have L3 := L3.only o (by simp); have OO := OO.trans0 o; clear o))
    | (go_at_call 27; refine (X1.out _ (henv.only (OO.trans0 (only_store w9 (.int .i64 (1)) (.int .i64 (500000000)))))).mono ?_; rintro e w10 ⟨rfl, o⟩; have L1 := L1.only (only_store w9 (.int .i64 (1)) (.int .i64 (500000000))) (by simp); have L2 := L2.only (only_store w9 (.int .i64 (1)) (.int .i64 (500000000))) (by simp); have OO := OO.trans0 (only_store w9 (.int .i64 (1)) (.int .i64 (500000000))); have L3 := blk_store w9 (.int .i64 (1)) (.int .i64 (500000000)); have L1 := L1.only o (by simp); have L2 := L2.only o (by simp); have L3 := L3.only o (by simp); have OO := OO.trans0 o; clear o)
    | (go_at_call 25; first | (clear mk25_0; refine (P1.out _ (henv.only OO)).mono ?_; rintro e w11 ⟨rfl, o⟩; have L1 := L1.only o (by simp); have L2 := L2.only o (by simp); have L3 := L3.only o (by simp); have OO := OO.trans0 o; clear o) | (refine (P2.out _ (henv.only (OO.trans0 (only_store w11 (.int .i64 (0)) (.int .i64 (0)))))).mono ?_; rintro e w12 ⟨rfl, o⟩; have L1 := L1.only (only_store w11 (.int .i64 (0)) (.int .i64 (0))) (by simp); have L2 := L2.only (only_store w11 (.int .i64 (0)) (.int .i64 (0))) (by simp); have L3 := L3.only (only_store w11 (.int .i64 (0)) (.int .i64 (0))) (by simp); have OO := OO.trans0 (only_store w11 (.int .i64 (0)) (.int .i64 (0))); have L1 := L1.only o (by simp); have L2 := L2.only o (by simp); have L3 := L3.only o (by simp); have OO := OO.trans0 o; clear o))
    | (go_at_call 13; refine (M1.out _).mono ?_; rintro e w16 ⟨rfl, o⟩; have L1 := L1.only o (by simp); have L2 := L2.only o (by simp); have L3 := L3.only o (by simp); have OO := OO.trans0 o; clear o))
  have mkh : True := trivial
  have L1 := (L1.only (only_store w16 (.int .i64 (4)) (.int .i64 (500000000))) (by simp)).drew
  have L2 := (L2.only (only_store w16 (.int .i64 (4)) (.int .i64 (500000000))) (by simp)).drew
  have L3 := (L3.only (only_store w16 (.int .i64 (4)) (.int .i64 (500000000))) (by simp)).drew
  have L4 := (blk_store w16 (.int .i64 (4)) (.int .i64 (500000000))).drew
  have OO := (OO.trans0 (only_store w16 (.int .i64 (4)) (.int .i64 (500000000)))).drew
  have k0 : ∀ s : Sub _, s.val.cell? ⟨w2.heap.size, 0, none⟩ = some (.int .i64 2) := fun s => (cell_of_only L1 s.ok).1
  have k1 : ∀ s : Sub _, s.val.cell? ⟨w2.heap.size, 1, none⟩ = some (.int .i64 100000000) := fun s => (cell_of_only L1 s.ok).2.1
  have k2 : ∀ s : Sub _, s.val.cell? ⟨w3.heap.size, 0, none⟩ = some (.int .i64 0) := fun s => (cell_of_only L2 s.ok).1
  have k3 : ∀ s : Sub _, s.val.cell? ⟨w3.heap.size, 1, none⟩ = some (.int .i64 999999999) := fun s => (cell_of_only L2 s.ok).2.1
  have k4 : ∀ s : Sub _, s.val.cell? ⟨w9.heap.size, 0, none⟩ = some (.int .i64 1) := fun s => (cell_of_only L3 s.ok).1
  have k5 : ∀ s : Sub _, s.val.cell? ⟨w9.heap.size, 1, none⟩ = some (.int .i64 500000000) := fun s => (cell_of_only L3 s.ok).2.1
  have k6 : ∀ s : Sub _, s.val.cell? ⟨w16.heap.size, 0, none⟩ = some (.int .i64 4) := fun s => (cell_of_only L4 s.ok).1
  have k7 : ∀ s : Sub _, s.val.cell? ⟨w16.heap.size, 1, none⟩ = some (.int .i64 500000000) := fun s => (cell_of_only L4 s.ok).2.1
  simp only [List.append_eq, List.cons_append, List.nil_append]
  refine wp_region_quiet_sub (by kernel_rfl) (by as_aux_lemma => kernel_rfl) ?_
  repeat (go_big_quiet_step (first
    | (go_at_call 17; with_reducible exact quiet_sub_same (num_any _ _))
    | (go_at_call 32; first | with_reducible exact quiet_sub (H1.out _) | with_reducible exact quiet_sub (H4.out _))))
  refine wpQuiet_nil ?_
  rintro _ ⟨s, rfl⟩
  replace OO := OO.trans0 s.ok
  go_wp2_with fail
  go_ret
  exact ⟨rfl, OO⟩
theorem quiet_known {W0 : World} {s : Sub W0} (h : Env W0) : Calls Tryd.prog 20 #[] s.val fun e w'' => e = .returned (.bool true) ∧ ∃ s' : Sub W0, w'' = s'.val := quiet_sub (known_any _ (h.only s.ok))
end Go.Proofs.YtcocjjapmmpgaaaDoor
