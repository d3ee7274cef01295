/- Turns: what turns that are not there, and zero ones, answer. Condition: they are so. -/
import Derived.Test.YtnndengdlokmbaaTu20
namespace Go.Proofs.Ytnndengdlokmbaa
open Go.RowKit
set_option linter.unusedVariables false
set_option linter.all false
set_option maxRecDepth 20000

/-- Turns that are not there, or zero ones. -/
def NotIs (w : World) (v : Option Addr) : Prop := v = none ∨ ∃ (x : Nat) (cs : Array Value), v = some ⟨x, 0, none⟩ ∧ Blk w x 60 cs ∧ cs[0]? = some (.pointer none)
theorem NotIs.only {w w' : World} {v : Option Addr} (h : NotIs w v) (o : Only [] w w') : NotIs w' v := by
  rcases h with h | ⟨x, cs, h1, h2, h3⟩
  · exact .inl h
  · exact .inr ⟨x, cs, h1, h2.only o (by simp), h3⟩
theorem is_not (v : Option Addr) (w : World) (h : NotIs w v) : Calls Try.prog 34 #[.pointer v] w fun e w' => e = .returned (.bool false) ∧ w = w' := by
  rcases h with rfl | ⟨x, cs, rfl, h2, h3⟩
  · go_enter Try.func34, Try.ntmps34
    go_wp2_with fail
    go_ret
    exact ⟨rfl, rfl⟩
  · have k0 := (h2.cell 0).trans h3
    clear h2 h3
    go_enter Try.func34, Try.ntmps34
    go_wp2_with fail
    go_ret
    exact ⟨rfl, rfl⟩
section
variable (v : Option Addr) (w : World) (h : NotIs w v)
include h
theorem no_runs  : Calls Try.prog 14 #[.pointer v] w fun e w' => e = .returned (.tuple #[.int .i64 0, .bool false]) ∧ w = w' := by
  have IS := hide (is_not v w h)
  clear h
  go_enter Try.func14, Try.ntmps14
  go_wp2_with (go_at_call 34; refine IS.out.mono ?_; rintro e w1 ⟨rfl, hw⟩; obtain rfl := hw)
  exact bodyPost_ret (v := .tuple #[.int .i64 0, .bool false]) (by simp [results, Try.results14, go_sem]) rfl ⟨rfl, rfl⟩
theorem no_prio (t : Int) : Calls Try.prog 25 #[.pointer v, .int .i64 t] w fun e w' => e = .returned (.tuple #[.int .i64 0, .bool false]) ∧ w = w' := by
  have IS := hide (is_not v w h)
  clear h
  go_enter Try.func25, Try.ntmps25
  go_wp2_with (go_at_call 34; refine IS.out.mono ?_; rintro e w1 ⟨rfl, hw⟩; obtain rfl := hw)
  exact bodyPost_ret (v := .tuple #[.int .i64 0, .bool false]) (by simp [results, Try.results25, go_sem]) rfl ⟨rfl, rfl⟩
theorem no_left (t : Int) : Calls Try.prog 26 #[.pointer v, .int .i64 t] w fun e w' => e = .returned (.tuple #[.int .i64 0, .bool false]) ∧ w = w' := by
  have IS := hide (is_not v w h)
  clear h
  go_enter Try.func26, Try.ntmps26
  go_wp2_with (go_at_call 34; refine IS.out.mono ?_; rintro e w1 ⟨rfl, hw⟩; obtain rfl := hw)
  exact bodyPost_ret (v := .tuple #[.int .i64 0, .bool false]) (by simp [results, Try.results26, go_sem]) rfl ⟨rfl, rfl⟩
theorem no_add (t p : Int) (rb : Bool) : Calls Try.prog 11 #[.pointer v, .int .i64 t, .int .i64 p, .bool rb] w fun e w' => e = .returned (.int .i64 1) ∧ w = w' := by
  have IS := hide (is_not v w h)
  clear h
  go_enter Try.func11, Try.ntmps11
  go_wp2_with (go_at_call 34; refine IS.out.mono ?_; rintro e w1 ⟨rfl, hw⟩; obtain rfl := hw)
  go_ret
  exact ⟨rfl, rfl⟩
theorem no_of (p : Int) : Calls Try.prog 16 #[.pointer v, .int .i64 p] w fun e w' => e = .returned (.slice none 0 0) ∧ w = w' := by
  have IS := hide (is_not v w h)
  clear h
  go_enter Try.func16, Try.ntmps16
  go_wp2_with (go_at_call 34; refine IS.out.mono ?_; rintro e w1 ⟨rfl, hw⟩; obtain rfl := hw)
  go_ret
  exact ⟨rfl, rfl⟩
theorem no_len  : Calls Try.prog 32 #[.pointer v] w fun e w' => e = .returned (.int .i64 0) ∧ w = w' := by
  have IS := hide (is_not v w h)
  clear h
  go_enter Try.func32, Try.ntmps32
  go_wp2_with (go_at_call 34; refine IS.out.mono ?_; rintro e w1 ⟨rfl, hw⟩; obtain rfl := hw)
  go_ret
  exact ⟨rfl, rfl⟩
theorem no_copy  : Calls Try.prog 23 #[.pointer v] w fun e w' => e = .returned (.pointer none) ∧ w = w' := by
  have IS := hide (is_not v w h)
  clear h
  go_enter Try.func23, Try.ntmps23
  go_wp2_with (go_at_call 34; refine IS.out.mono ?_; rintro e w1 ⟨rfl, hw⟩; obtain rfl := hw)
  go_ret
  exact ⟨rfl, rfl⟩
theorem no_in (t p : Int) (f : Value) : Calls Try.prog 51 #[.pointer v, .int .i64 t, .int .i64 p, f] w fun e w' => e = .returned (.int .i64 1) ∧ w = w' := by
  have IS := hide (is_not v w h)
  clear h
  go_enter Try.func51, Try.ntmps51
  go_wp2_with (go_at_call 34; refine IS.out.mono ?_; rintro e w1 ⟨rfl, hw⟩; obtain rfl := hw)
  go_ret
  exact ⟨rfl, rfl⟩
theorem no_tick : Calls Try.prog 13 #[.pointer v] w fun e w' => e = .returned (.tuple #[.int .i64 0, .bool false]) ∧ w = w' := by
  have RU := hide (no_runs v w h)
  clear h
  go_enter Try.func13, Try.ntmps13
  go_wp2_with (go_at_call 14; refine RU.out.mono ?_; rintro e w1 ⟨rfl, hw⟩; obtain rfl := hw)
  exact bodyPost_ret (v := .tuple #[.int .i64 0, .bool false]) (by simp [results, Try.results13, go_sem]) rfl ⟨rfl, rfl⟩
set_option maxHeartbeats 1000000 in
theorem no_leave (t : Int) : Calls Try.prog 27 #[.pointer v, .int .i64 t] w fun e w' => e = .returned (.int .i64 1) ∧ Only [] w w' := by
  have oW : Only [] w ((w.alloc (.cells #[.pointer v] 23)).alloc (.cells #[.int .i64 t] 3)) := (((Only.refl [] w).alloc _).alloc _)
  have IN := hide (fun t p f => no_in v _ (h.only oW) t p f)
  have OW := hide oW
  have e0 := ((Blk.new w 23 #[.pointer v]).alloc (.cells #[.int .i64 t] 3))
  try simp only [World.size_alloc] at e0
  have c0 : ((w.alloc (.cells #[.pointer v] 23)).alloc (.cells #[.int .i64 t] 3)).cell? ⟨w.heap.size, 0, none⟩ = some (.pointer v) := by simpa using e0.cell 0
  have e1 := (Blk.new (w.alloc (.cells #[.pointer v] 23)) 3 #[.int .i64 t])
  try simp only [World.size_alloc] at e1
  have c1 : ((w.alloc (.cells #[.pointer v] 23)).alloc (.cells #[.int .i64 t] 3)).cell? ⟨w.heap.size + 1, 0, none⟩ = some (.int .i64 t) := by simpa using e1.cell 0
  obtain ⟨W1, hW1⟩ : ∃ W1, ((w.alloc (.cells #[.pointer v] 23)).alloc (.cells #[.int .i64 t] 3)) = W1 := ⟨_, rfl⟩
  rw [hW1] at IN OW c0 c1
  clear h oW e0 e1
  go_enter Try.func27, Try.ntmps27
  go_wp2_with (go_at_call 51; (try rw [hW1]); refine (IN.out _ _ _).mono ?_; rintro e w1 ⟨rfl, hw⟩; obtain rfl := hw)
  go_ret
  exact ⟨rfl, OW.out⟩
set_option maxHeartbeats 1000000 in
theorem no_yield (t : Int) : Calls Try.prog 28 #[.pointer v, .int .i64 t] w fun e w' => e = .returned (.int .i64 1) ∧ Only [] w w' := by
  have oW : Only [] w ((w.alloc (.cells #[.pointer v] 23)).alloc (.cells #[.int .i64 t] 3)) := (((Only.refl [] w).alloc _).alloc _)
  have IN := hide (fun t p f => no_in v _ (h.only oW) t p f)
  have OW := hide oW
  have e0 := ((Blk.new w 23 #[.pointer v]).alloc (.cells #[.int .i64 t] 3))
  try simp only [World.size_alloc] at e0
  have c0 : ((w.alloc (.cells #[.pointer v] 23)).alloc (.cells #[.int .i64 t] 3)).cell? ⟨w.heap.size, 0, none⟩ = some (.pointer v) := by simpa using e0.cell 0
  have e1 := (Blk.new (w.alloc (.cells #[.pointer v] 23)) 3 #[.int .i64 t])
  try simp only [World.size_alloc] at e1
  have c1 : ((w.alloc (.cells #[.pointer v] 23)).alloc (.cells #[.int .i64 t] 3)).cell? ⟨w.heap.size + 1, 0, none⟩ = some (.int .i64 t) := by simpa using e1.cell 0
  obtain ⟨W1, hW1⟩ : ∃ W1, ((w.alloc (.cells #[.pointer v] 23)).alloc (.cells #[.int .i64 t] 3)) = W1 := ⟨_, rfl⟩
  rw [hW1] at IN OW c0 c1
  clear h oW e0 e1
  go_enter Try.func28, Try.ntmps28
  go_wp2_with (go_at_call 51; (try rw [hW1]); refine (IN.out _ _ _).mono ?_; rintro e w1 ⟨rfl, hw⟩; obtain rfl := hw)
  go_ret
  exact ⟨rfl, OW.out⟩
set_option maxHeartbeats 1000000 in
theorem no_put (t p : Int) (rb : Bool) : Calls Try.prog 29 #[.pointer v, .int .i64 t, .int .i64 p, .bool rb] w fun e w' => e = .returned (.int .i64 1) ∧ Only [] w w' := by
  have oW : Only [] w ((((w.alloc (.cells #[.pointer v] 23)).alloc (.cells #[.int .i64 t] 3)).alloc (.cells #[.int .i64 p] 3)).alloc (.cells #[.bool rb] 4)) := (((((Only.refl [] w).alloc _).alloc _).alloc _).alloc _)
  have IN := hide (fun t p f => no_in v _ (h.only oW) t p f)
  have OW := hide oW
  have e0 := ((((Blk.new w 23 #[.pointer v]).alloc (.cells #[.int .i64 t] 3)).alloc (.cells #[.int .i64 p] 3)).alloc (.cells #[.bool rb] 4))
  try simp only [World.size_alloc] at e0
  have c0 : ((((w.alloc (.cells #[.pointer v] 23)).alloc (.cells #[.int .i64 t] 3)).alloc (.cells #[.int .i64 p] 3)).alloc (.cells #[.bool rb] 4)).cell? ⟨w.heap.size, 0, none⟩ = some (.pointer v) := by simpa using e0.cell 0
  have e1 := (((Blk.new (w.alloc (.cells #[.pointer v] 23)) 3 #[.int .i64 t]).alloc (.cells #[.int .i64 p] 3)).alloc (.cells #[.bool rb] 4))
  try simp only [World.size_alloc] at e1
  have c1 : ((((w.alloc (.cells #[.pointer v] 23)).alloc (.cells #[.int .i64 t] 3)).alloc (.cells #[.int .i64 p] 3)).alloc (.cells #[.bool rb] 4)).cell? ⟨w.heap.size + 1, 0, none⟩ = some (.int .i64 t) := by simpa using e1.cell 0
  have e2 := ((Blk.new ((w.alloc (.cells #[.pointer v] 23)).alloc (.cells #[.int .i64 t] 3)) 3 #[.int .i64 p]).alloc (.cells #[.bool rb] 4))
  try simp only [World.size_alloc] at e2
  have c2 : ((((w.alloc (.cells #[.pointer v] 23)).alloc (.cells #[.int .i64 t] 3)).alloc (.cells #[.int .i64 p] 3)).alloc (.cells #[.bool rb] 4)).cell? ⟨w.heap.size + 2, 0, none⟩ = some (.int .i64 p) := by simpa using e2.cell 0
  have e3 := (Blk.new (((w.alloc (.cells #[.pointer v] 23)).alloc (.cells #[.int .i64 t] 3)).alloc (.cells #[.int .i64 p] 3)) 4 #[.bool rb])
  try simp only [World.size_alloc] at e3
  have c3 : ((((w.alloc (.cells #[.pointer v] 23)).alloc (.cells #[.int .i64 t] 3)).alloc (.cells #[.int .i64 p] 3)).alloc (.cells #[.bool rb] 4)).cell? ⟨w.heap.size + 3, 0, none⟩ = some (.bool rb) := by simpa using e3.cell 0
  obtain ⟨W1, hW1⟩ : ∃ W1, ((((w.alloc (.cells #[.pointer v] 23)).alloc (.cells #[.int .i64 t] 3)).alloc (.cells #[.int .i64 p] 3)).alloc (.cells #[.bool rb] 4)) = W1 := ⟨_, rfl⟩
  rw [hW1] at IN OW c0 c1 c2 c3
  clear h oW e0 e1 e2 e3
  go_enter Try.func29, Try.ntmps29
  go_wp2_with (go_at_call 51; (try rw [hW1]); refine (IN.out _ _ _).mono ?_; rintro e w1 ⟨rfl, hw⟩; obtain rfl := hw)
  go_ret
  exact ⟨rfl, OW.out⟩
set_option maxHeartbeats 1000000 in
theorem no_move (t p : Int) : Calls Try.prog 30 #[.pointer v, .int .i64 t, .int .i64 p] w fun e w' => e = .returned (.int .i64 1) ∧ Only [] w w' := by
  have oW : Only [] w (((w.alloc (.cells #[.pointer v] 23)).alloc (.cells #[.int .i64 t] 3)).alloc (.cells #[.int .i64 p] 3)) := ((((Only.refl [] w).alloc _).alloc _).alloc _)
  have IN := hide (fun t p f => no_in v _ (h.only oW) t p f)
  have OW := hide oW
  have e0 := (((Blk.new w 23 #[.pointer v]).alloc (.cells #[.int .i64 t] 3)).alloc (.cells #[.int .i64 p] 3))
  try simp only [World.size_alloc] at e0
  have c0 : (((w.alloc (.cells #[.pointer v] 23)).alloc (.cells #[.int .i64 t] 3)).alloc (.cells #[.int .i64 p] 3)).cell? ⟨w.heap.size, 0, none⟩ = some (.pointer v) := by simpa using e0.cell 0
  have e1 := ((Blk.new (w.alloc (.cells #[.pointer v] 23)) 3 #[.int .i64 t]).alloc (.cells #[.int .i64 p] 3))
  try simp only [World.size_alloc] at e1
  have c1 : (((w.alloc (.cells #[.pointer v] 23)).alloc (.cells #[.int .i64 t] 3)).alloc (.cells #[.int .i64 p] 3)).cell? ⟨w.heap.size + 1, 0, none⟩ = some (.int .i64 t) := by simpa using e1.cell 0
  have e2 := (Blk.new ((w.alloc (.cells #[.pointer v] 23)).alloc (.cells #[.int .i64 t] 3)) 3 #[.int .i64 p])
  try simp only [World.size_alloc] at e2
  have c2 : (((w.alloc (.cells #[.pointer v] 23)).alloc (.cells #[.int .i64 t] 3)).alloc (.cells #[.int .i64 p] 3)).cell? ⟨w.heap.size + 2, 0, none⟩ = some (.int .i64 p) := by simpa using e2.cell 0
  obtain ⟨W1, hW1⟩ : ∃ W1, (((w.alloc (.cells #[.pointer v] 23)).alloc (.cells #[.int .i64 t] 3)).alloc (.cells #[.int .i64 p] 3)) = W1 := ⟨_, rfl⟩
  rw [hW1] at IN OW c0 c1 c2
  clear h oW e0 e1 e2
  go_enter Try.func30, Try.ntmps30
  go_wp2_with (go_at_call 51; (try rw [hW1]); refine (IN.out _ _ _).mono ?_; rintro e w1 ⟨rfl, hw⟩; obtain rfl := hw)
  go_ret
  exact ⟨rfl, OW.out⟩
set_option maxHeartbeats 1000000 in
theorem no_lift (t p : Int) : Calls Try.prog 31 #[.pointer v, .int .i64 t, .int .i64 p] w fun e w' => e = .returned (.int .i64 1) ∧ Only [] w w' := by
  have oW : Only [] w (((w.alloc (.cells #[.pointer v] 23)).alloc (.cells #[.int .i64 t] 3)).alloc (.cells #[.int .i64 p] 3)) := ((((Only.refl [] w).alloc _).alloc _).alloc _)
  have IN := hide (fun t p f => no_in v _ (h.only oW) t p f)
  have OW := hide oW
  have e0 := (((Blk.new w 23 #[.pointer v]).alloc (.cells #[.int .i64 t] 3)).alloc (.cells #[.int .i64 p] 3))
  try simp only [World.size_alloc] at e0
  have c0 : (((w.alloc (.cells #[.pointer v] 23)).alloc (.cells #[.int .i64 t] 3)).alloc (.cells #[.int .i64 p] 3)).cell? ⟨w.heap.size, 0, none⟩ = some (.pointer v) := by simpa using e0.cell 0
  have e1 := ((Blk.new (w.alloc (.cells #[.pointer v] 23)) 3 #[.int .i64 t]).alloc (.cells #[.int .i64 p] 3))
  try simp only [World.size_alloc] at e1
  have c1 : (((w.alloc (.cells #[.pointer v] 23)).alloc (.cells #[.int .i64 t] 3)).alloc (.cells #[.int .i64 p] 3)).cell? ⟨w.heap.size + 1, 0, none⟩ = some (.int .i64 t) := by simpa using e1.cell 0
  have e2 := (Blk.new ((w.alloc (.cells #[.pointer v] 23)).alloc (.cells #[.int .i64 t] 3)) 3 #[.int .i64 p])
  try simp only [World.size_alloc] at e2
  have c2 : (((w.alloc (.cells #[.pointer v] 23)).alloc (.cells #[.int .i64 t] 3)).alloc (.cells #[.int .i64 p] 3)).cell? ⟨w.heap.size + 2, 0, none⟩ = some (.int .i64 p) := by simpa using e2.cell 0
  obtain ⟨W1, hW1⟩ : ∃ W1, (((w.alloc (.cells #[.pointer v] 23)).alloc (.cells #[.int .i64 t] 3)).alloc (.cells #[.int .i64 p] 3)) = W1 := ⟨_, rfl⟩
  rw [hW1] at IN OW c0 c1 c2
  clear h oW e0 e1 e2
  go_enter Try.func31, Try.ntmps31
  go_wp2_with (go_at_call 51; (try rw [hW1]); refine (IN.out _ _ _).mono ?_; rintro e w1 ⟨rfl, hw⟩; obtain rfl := hw)
  go_ret
  exact ⟨rfl, OW.out⟩
end
end Go.Proofs.Ytnndengdlokmbaa
