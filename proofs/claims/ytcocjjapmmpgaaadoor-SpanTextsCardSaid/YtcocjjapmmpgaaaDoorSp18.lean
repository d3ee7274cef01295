/- Spans: SpanTexts, walked: it answers true. Condition: Env. -/
import Derived.Test.YtcocjjapmmpgaaaDoorSp8
import Derived.Test.YtcocjjapmmpgaaaDoorSp17
namespace Go.Proofs.YtcocjjapmmpgaaaDoor
open Go.RowKit Go.BigFrame
set_option linter.unusedVariables false
set_option linter.all false
set_option maxRecDepth 100000

set_option maxHeartbeats 4000000 in
theorem texts_big (s n : Int) (t : ByteArray) (hb : 9000 < t.size) (w : World) (henv : Env w) : Calls Tryd.prog 5 #[.agg #[.int .i64 s, .int .i64 n], .string t] w fun e w' => e = .returned (.bool true) ∧ Only [] w w' := by
  have g0 : decide ((9000 : Int) < (t.size : Int)) = true := by simp; omega
  have OO := (Only.refl [] w).alloc (.cells #[.int .i64 s, .int .i64 n] 23)
  go_enter Tryd.func5, Tryd.ntmps5
  go_wp2_with (first
    | (go_at_call 20; refine (known_any _ (henv.only OO)).mono ?_; rintro e wk ⟨rfl, o⟩; have OO := OO.trans0 o))
  go_ret
  exact ⟨rfl, OO⟩
set_option maxHeartbeats 4000000 in
theorem texts_not (s n x y ez : Int) (t : ByteArray) (h1 : parseN t.data.toList = (x, y, ez)) (hb : ¬ 9000 < t.size) (hm : mayN s n = false) (w : World) (henv : Env w) : Calls Tryd.prog 5 #[.agg #[.int .i64 s, .int .i64 n], .string t] w fun e w' => e = .returned (.bool true) ∧ Only [] w w' := by
  have g0 : decide ((9000 : Int) < (t.size : Int)) = false := by simp; omega
  have K1 : Hid (∀ W, Env W → Calls Tryd.prog 25 #[.string t] W fun e w' => e = .returned (.tuple #[.agg #[.int .i64 x, .int .i64 y], .int .i64 ez]) ∧ Only [] W w') := hide (fun W hE => (parse_any t W hE).mono fun e w' ⟨he, ho⟩ => ⟨by unfold spE at he; rw [he, h1], ho⟩)
  have K2 : Hid (∀ W, Calls Tryd.prog 26 #[.string t] W fun e1 w' => e1 = .returned (.tuple #[.agg #[.int .i64 x, .int .i64 y], .int .i64 ez]) ∧ Only [] W w') := hide (fun W => (rparse_any t (by omega) W).mono fun e1 w' ⟨he, ho⟩ => ⟨by unfold spE at he; rw [he, parse_alike, h1], ho⟩)
  have K4 : Hid (∀ W, Calls Tryd.prog 16 #[.agg #[.int .i64 s, .int .i64 n]] W fun e w' => e = .returned (.bool false) ∧ Only [] W w') := hide (fun W => (may16 s n W).mono fun e w' ⟨he, hw⟩ => ⟨by rw [he, hm], hw ▸ (Only.refl [] W).alloc _⟩)
  have K3 : Hid (∀ W, Env W → Calls Tryd.prog 27 #[.agg #[.int .i64 s, .int .i64 n]] W fun e w' => e = .returned (.tuple #[.string ⟨#[]⟩, .int .i64 2]) ∧ Only [] W w') := hide (fun W hE => (text_any s n W hE).mono fun e w' ⟨he, ho⟩ => ⟨by unfold textR at he; rw [if_neg (by simp [hm])] at he; exact he, ho⟩)
  clear h1 hm
  have OO := (Only.refl [] w).alloc (.cells #[.int .i64 s, .int .i64 n] 23)
  have LA := Blk.new w 23 #[.int .i64 s, .int .i64 n]
  go_enter Tryd.func5, Tryd.ntmps5
  go_wp2_with (first
    | (go_at_call 25; refine (K1.out _ (henv.only OO)).mono ?_; rintro e w1 ⟨rfl, o⟩; have LA := LA.only o (by simp); have OO := OO.trans0 o; clear o; have LA := LA.only (only_store w1 (.int .i64 x) (.int .i64 y)) (by simp); have OO := OO.trans0 (only_store w1 (.int .i64 x) (.int .i64 y)); have LC := blk_store w1 (.int .i64 x) (.int .i64 y); obtain ⟨la0, la1, laf, lag, lal⟩ := cell_of_only LA (Only.refl [] _); obtain ⟨lc0, lc1, lcf, lcg, lcl⟩ := cell_of_only LC (Only.refl [] _))
    | (go_at_call 26; refine (K2.out _).mono ?_; rintro e w2 ⟨rfl, o⟩; have LA := LA.only o (by simp); have LC := LC.only o (by simp); have OO := OO.trans0 o; clear o; have LA := LA.only (only_store w2 (.int .i64 x) (.int .i64 y)) (by simp); have LC := LC.only (only_store w2 (.int .i64 x) (.int .i64 y)) (by simp); have OO := OO.trans0 (only_store w2 (.int .i64 x) (.int .i64 y)); have LD := blk_store w2 (.int .i64 x) (.int .i64 y); clear la0 la1 laf lag lal; obtain ⟨la0, la1, laf, lag, lal⟩ := cell_of_only LA (Only.refl [] _); clear lc0 lc1 lcf lcg lcl; obtain ⟨lc0, lc1, lcf, lcg, lcl⟩ := cell_of_only LC (Only.refl [] _); obtain ⟨ld0, ld1, ldf, ldg, ldl⟩ := cell_of_only LD (Only.refl [] _))
    | (go_at_call 27; refine (K3.out _ (henv.only OO)).mono ?_; rintro e w3 ⟨rfl, o⟩; have LA := LA.only o (by simp); have LC := LC.only o (by simp); have LD := LD.only o (by simp); have OO := OO.trans0 o; clear o; clear la0 la1 laf lag lal; obtain ⟨la0, la1, laf, lag, lal⟩ := cell_of_only LA (Only.refl [] _); clear lc0 lc1 lcf lcg lcl; obtain ⟨lc0, lc1, lcf, lcg, lcl⟩ := cell_of_only LC (Only.refl [] _); clear ld0 ld1 ldf ldg ldl; obtain ⟨ld0, ld1, ldf, ldg, ldl⟩ := cell_of_only LD (Only.refl [] _))
    | (go_at_call 16; refine (K4.out _).mono ?_; rintro e w4 ⟨rfl, o⟩; have LA := LA.only o (by simp); have LC := LC.only o (by simp); have LD := LD.only o (by simp); have OO := OO.trans0 o; clear o; clear la0 la1 laf lag lal; obtain ⟨la0, la1, laf, lag, lal⟩ := cell_of_only LA (Only.refl [] _); clear lc0 lc1 lcf lcg lcl; obtain ⟨lc0, lc1, lcf, lcg, lcl⟩ := cell_of_only LC (Only.refl [] _); clear ld0 ld1 ldf ldg ldl; obtain ⟨ld0, ld1, ldf, ldg, ldl⟩ := cell_of_only LD (Only.refl [] _))
    | (go_at_call 17; refine (num_any _ _).mono ?_; rintro e _ ⟨rfl, rfl⟩)
    | (go_at_call 20; refine (known_any _ (henv.only OO)).mono ?_; rintro e wk ⟨rfl, o⟩; have OO := OO.trans0 o))
  go_ret
  exact ⟨rfl, OO⟩
set_option maxHeartbeats 4000000 in
theorem texts_may (s n x y ez : Int) (t : ByteArray) (h1 : parseN t.data.toList = (x, y, ez)) (hb : ¬ 9000 < t.size) (hm : mayN s n = true) (w : World) (henv : Env w) : Calls Tryd.prog 5 #[.agg #[.int .i64 s, .int .i64 n], .string t] w fun e w' => e = .returned (.bool true) ∧ Only [] w w' := by
  have g0 : decide ((9000 : Int) < (t.size : Int)) = false := by simp; omega
  have K1 : Hid (∀ W, Env W → Calls Tryd.prog 25 #[.string t] W fun e w' => e = .returned (.tuple #[.agg #[.int .i64 x, .int .i64 y], .int .i64 ez]) ∧ Only [] W w') := hide (fun W hE => (parse_any t W hE).mono fun e w' ⟨he, ho⟩ => ⟨by unfold spE at he; rw [he, h1], ho⟩)
  have K2 : Hid (∀ W, Calls Tryd.prog 26 #[.string t] W fun e1 w' => e1 = .returned (.tuple #[.agg #[.int .i64 x, .int .i64 y], .int .i64 ez]) ∧ Only [] W w') := hide (fun W => (rparse_any t (by omega) W).mono fun e1 w' ⟨he, ho⟩ => ⟨by unfold spE at he; rw [he, parse_alike, h1], ho⟩)
  have K4 : Hid (∀ W, Calls Tryd.prog 16 #[.agg #[.int .i64 s, .int .i64 n]] W fun e w' => e = .returned (.bool true) ∧ Only [] W w') := hide (fun W => (may16 s n W).mono fun e w' ⟨he, hw⟩ => ⟨by rw [he, hm], hw ▸ (Only.refl [] W).alloc _⟩)
  obtain ⟨U, hU⟩ : ∃ U, textN s n = U := ⟨_, rfl⟩
  have K3 : Hid (∀ W, Env W → Calls Tryd.prog 27 #[.agg #[.int .i64 s, .int .i64 n]] W fun e w' => e = .returned (.tuple #[.string ⟨U.toArray⟩, .int .i64 0]) ∧ Only [] W w') := hide (fun W hE => (text_any s n W hE).mono fun e w' ⟨he, ho⟩ => ⟨by unfold textR at he; rw [if_pos hm, hU] at he; exact he, ho⟩)
  have hp := parse_text hm
  rw [hU] at hp
  have K5 : Hid (∀ W, Env W → Calls Tryd.prog 25 #[.string ⟨U.toArray⟩] W fun e w' => e = .returned (.tuple #[.agg #[.int .i64 s, .int .i64 n], .int .i64 0]) ∧ Only [] W w') := hide (fun W hE => (parse_any ⟨U.toArray⟩ W hE).mono fun e w' ⟨he, ho⟩ => ⟨by unfold spE at he; rw [he, show (ByteArray.mk U.toArray).data.toList = U from rfl, hp], ho⟩)
  have K6 : Hid (∀ W, Calls Tryd.prog 28 #[.agg #[.int .i64 s, .int .i64 n]] W fun e w' => e = .returned (.string ⟨U.toArray⟩) ∧ Only [] W w') := hide (fun W => (rtext_any s n hm W).mono fun e w' ⟨he, ho⟩ => ⟨by rw [he, hU], ho⟩)
  clear h1 hm hU hp
  have mk25_0 : True := trivial
  have OO := (Only.refl [] w).alloc (.cells #[.int .i64 s, .int .i64 n] 23)
  have LA := Blk.new w 23 #[.int .i64 s, .int .i64 n]
  go_enter Tryd.func5, Tryd.ntmps5
  go_wp2_with (first
    | (go_at_call 25; first | (clear mk25_0; refine (K1.out _ (henv.only OO)).mono ?_; rintro e w1 ⟨rfl, o⟩; have LA := LA.only o (by simp); have OO := OO.trans0 o; clear o; have LA := LA.only (only_store w1 (.int .i64 x) (.int .i64 y)) (by simp); have OO := OO.trans0 (only_store w1 (.int .i64 x) (.int .i64 y)); have LC := blk_store w1 (.int .i64 x) (.int .i64 y); obtain ⟨la0, la1, laf, lag, lal⟩ := cell_of_only LA (Only.refl [] _); obtain ⟨lc0, lc1, lcf, lcg, lcl⟩ := cell_of_only LC (Only.refl [] _)) | (refine (K5.out _ (henv.only OO)).mono ?_; rintro e w5 ⟨rfl, o⟩; have LA := LA.only o (by simp); have LC := LC.only o (by simp); have LD := LD.only o (by simp); have OO := OO.trans0 o; clear o; have LA := LA.only (only_store w5 (.int .i64 s) (.int .i64 n)) (by simp); have LC := LC.only (only_store w5 (.int .i64 s) (.int .i64 n)) (by simp); have LD := LD.only (only_store w5 (.int .i64 s) (.int .i64 n)) (by simp); have OO := OO.trans0 (only_store w5 (.int .i64 s) (.int .i64 n)); have LE := blk_store w5 (.int .i64 s) (.int .i64 n); clear la0 la1 laf lag lal; obtain ⟨la0, la1, laf, lag, lal⟩ := cell_of_only LA (Only.refl [] _); clear lc0 lc1 lcf lcg lcl; obtain ⟨lc0, lc1, lcf, lcg, lcl⟩ := cell_of_only LC (Only.refl [] _); clear ld0 ld1 ldf ldg ldl; obtain ⟨ld0, ld1, ldf, ldg, ldl⟩ := cell_of_only LD (Only.refl [] _); obtain ⟨le0, le1, lef, leg, lel⟩ := cell_of_only LE (Only.refl [] _)))
    | (go_at_call 26; refine (K2.out _).mono ?_; rintro e w2 ⟨rfl, o⟩; have LA := LA.only o (by simp); have LC := LC.only o (by simp); have OO := OO.trans0 o; clear o; have LA := LA.only (only_store w2 (.int .i64 x) (.int .i64 y)) (by simp); have LC := LC.only (only_store w2 (.int .i64 x) (.int .i64 y)) (by simp); have OO := OO.trans0 (only_store w2 (.int .i64 x) (.int .i64 y)); have LD := blk_store w2 (.int .i64 x) (.int .i64 y); clear la0 la1 laf lag lal; obtain ⟨la0, la1, laf, lag, lal⟩ := cell_of_only LA (Only.refl [] _); clear lc0 lc1 lcf lcg lcl; obtain ⟨lc0, lc1, lcf, lcg, lcl⟩ := cell_of_only LC (Only.refl [] _); obtain ⟨ld0, ld1, ldf, ldg, ldl⟩ := cell_of_only LD (Only.refl [] _))
    | (go_at_call 27; refine (K3.out _ (henv.only OO)).mono ?_; rintro e w3 ⟨rfl, o⟩; have LA := LA.only o (by simp); have LC := LC.only o (by simp); have LD := LD.only o (by simp); have OO := OO.trans0 o; clear o; clear la0 la1 laf lag lal; obtain ⟨la0, la1, laf, lag, lal⟩ := cell_of_only LA (Only.refl [] _); clear lc0 lc1 lcf lcg lcl; obtain ⟨lc0, lc1, lcf, lcg, lcl⟩ := cell_of_only LC (Only.refl [] _); clear ld0 ld1 ldf ldg ldl; obtain ⟨ld0, ld1, ldf, ldg, ldl⟩ := cell_of_only LD (Only.refl [] _))
    | (go_at_call 16; refine (K4.out _).mono ?_; rintro e w4 ⟨rfl, o⟩; have LA := LA.only o (by simp); have LC := LC.only o (by simp); have LD := LD.only o (by simp); have OO := OO.trans0 o; clear o; clear la0 la1 laf lag lal; obtain ⟨la0, la1, laf, lag, lal⟩ := cell_of_only LA (Only.refl [] _); clear lc0 lc1 lcf lcg lcl; obtain ⟨lc0, lc1, lcf, lcg, lcl⟩ := cell_of_only LC (Only.refl [] _); clear ld0 ld1 ldf ldg ldl; obtain ⟨ld0, ld1, ldf, ldg, ldl⟩ := cell_of_only LD (Only.refl [] _))
    | (go_at_call 28; refine (K6.out _).mono ?_; rintro e w6 ⟨rfl, o⟩; have LA := LA.only o (by simp); have LC := LC.only o (by simp); have LD := LD.only o (by simp); have LE := LE.only o (by simp); have OO := OO.trans0 o; clear o; clear la0 la1 laf lag lal; obtain ⟨la0, la1, laf, lag, lal⟩ := cell_of_only LA (Only.refl [] _); clear lc0 lc1 lcf lcg lcl; obtain ⟨lc0, lc1, lcf, lcg, lcl⟩ := cell_of_only LC (Only.refl [] _); clear ld0 ld1 ldf ldg ldl; obtain ⟨ld0, ld1, ldf, ldg, ldl⟩ := cell_of_only LD (Only.refl [] _); clear le0 le1 lef leg lel; obtain ⟨le0, le1, lef, leg, lel⟩ := cell_of_only LE (Only.refl [] _))
    | (go_at_call 17; refine (num_any _ _).mono ?_; rintro e _ ⟨rfl, rfl⟩)
    | (go_at_call 20; refine (known_any _ (henv.only OO)).mono ?_; rintro e wk ⟨rfl, o⟩; have OO := OO.trans0 o))
  go_ret
  exact ⟨rfl, OO⟩
theorem texts_any (s n : Int) (t : ByteArray) (w : World) (henv : Env w) : Calls Tryd.prog 5 #[.agg #[.int .i64 s, .int .i64 n], .string t] w fun e w' => e = .returned (.bool true) ∧ Only [] w w' := by
  by_cases hb : 9000 < t.size
  · exact texts_big s n t hb w henv
  obtain ⟨x, y, ez, h1⟩ : ∃ x y e, parseN t.data.toList = (x, y, e) := ⟨_, _, _, rfl⟩
  cases hm : mayN s n
  · exact texts_not s n x y ez t h1 hb hm w henv
  · exact texts_may s n x y ez t h1 hb hm w henv
end Go.Proofs.YtcocjjapmmpgaaaDoor
