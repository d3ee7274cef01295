/- Code: the walks of what ops name, and of which instructions may be. No condition. -/
import Derived.Test.YteblhklclcjonaaGreatDoorCd2
import Derived.Test.YteblhklclcjonaaGreatDoorMore
import Derived.Test.YteblhklclcjonaaGreatDoorProg
import Derived.Deep.RegionHeld3
import Derived.Deep.WholeRow
namespace Go.Proofs.YteblhklclcjonaaGreatDoor
open Go.RowKit
set_option linter.unusedVariables false
set_option linter.all false
set_option maxRecDepth 20000

theorem num_any (k : Int) (w : World) : Calls Tryz.prog 12 #[.int .i64 k] w fun e w' => e = .returned (.int .i64 k) ∧ w' = w := by
  go_enter Tryz.func12, Tryz.ntmps12
  go_wp2_with fail
  go_ret
  exact ⟨rfl, rfl⟩
/-- What an op names, as the program keeps it. -/
def opV (k : Nat) : Array Value := #[.string ⟨(nmB k).toArray⟩, .bool (shp k).d, .bool (shp k).a, .bool (shp k).b, .int .i64 (shp k).imm]
def OPSV : Array Value := #[.string ⟨#[101, 110, 100]⟩, .bool false, .bool false, .bool false, .int .i64 0, .string ⟨#[115, 101, 116]⟩, .bool true, .bool false, .bool false, .int .i64 1, .string ⟨#[109, 111, 118, 101]⟩, .bool true, .bool true, .bool false, .int .i64 0, .string ⟨#[97, 100, 100]⟩, .bool true, .bool true, .bool true, .int .i64 0, .string ⟨#[115, 117, 98]⟩, .bool true, .bool true, .bool true, .int .i64 0, .string ⟨#[106, 117, 109, 112]⟩, .bool false, .bool false, .bool false, .int .i64 2, .string ⟨#[122, 101, 114, 111]⟩, .bool false, .bool true, .bool false, .int .i64 2, .string ⟨#[99, 97, 108, 108]⟩, .bool false, .bool false, .bool false, .int .i64 3, .string ⟨#[110, 111, 116, 101]⟩, .bool false, .bool true, .bool false, .int .i64 0]
def Z99 : Array Value := #[.string ⟨#[]⟩, .bool false, .bool false, .bool false, .int .i64 0, .string ⟨#[]⟩, .bool false, .bool false, .bool false, .int .i64 0, .string ⟨#[]⟩, .bool false, .bool false, .bool false, .int .i64 0, .string ⟨#[]⟩, .bool false, .bool false, .bool false, .int .i64 0, .string ⟨#[]⟩, .bool false, .bool false, .bool false, .int .i64 0, .string ⟨#[]⟩, .bool false, .bool false, .bool false, .int .i64 0, .string ⟨#[]⟩, .bool false, .bool false, .bool false, .int .i64 0, .string ⟨#[]⟩, .bool false, .bool false, .bool false, .int .i64 0, .string ⟨#[]⟩, .bool false, .bool false, .bool false, .int .i64 0]
theorem info99 : (Tryz.prog.info? 175).map (fun i => (i.zero, i.size)) = some (some (.agg Z99), 45) := by kernel_rfl
theorem zero99 (W : World) : (zeroValue 175).run Tryz.prog W = .ok (.agg Z99) W := (zero_of_info info99).1 W
theorem size99 : (Tryz.prog.info? 175).map (·.size) = some OPSV.size := by kernel_rfl
theorem wpList_store_new {P : Program} {ops : Array Oper} {rest : List Oper} {op : Oper} {a : Act} {W w : World} {Q : Exit → Act → World → Prop} (hgd : op.guard = none) (ty : TypeId) (x y : Operand) (ho : op.op = .store ty x y)
    (c c' : Array Value) (hx : a.eval x = .pointer (some ⟨w.heap.size, 0, none⟩)) (hy : a.eval y = .agg c') (hW : W = w.alloc (.cells c ty))
    (hi : (P.info? ty).map (·.size) = some c'.size) (hs : c.size = c'.size) (h1 : c'.all (·.oneCell') = true)
    (h : wpList P ops Q rest (a.put op.dst undef) (w.alloc (.cells c' ty))) : wpList P ops Q (op :: rest) a W :=
  wpList_plain hgd fun _ hK => by
    subst hW
    unfold Oper.wp execOp
    simp only [ho, hx, hy, Sem.run_bind, run_storeAt_new w ty c c' hi hs h1, Sem.run_pure, Result.andThen_ok]
    exact hK _ _ h
theorem results_cell {fn : Func} {t : Tmp} {ty : TypeId} (h : fn.results = #[.cell t ty]) {tmps : Array Value} {P : Program} {w : World} {g : Addr} {v : Value} (h0 : tmps.getD t undef = .pointer (some g)) (hl : (loadVar ty g).run P w = .ok v w) :
    (results fn tmps).run P w = .ok v w := by
  have h1 : tmps[t]?.getD undef = .pointer (some g) := by rw [← Array.getD_eq_getD_getElem?]; exact h0
  simp [results, h, h1, asAddr, hl]
set_option maxHeartbeats 4000000 in
theorem ops_any (w : World) : Calls Tryz.prog 119 #[] w fun e w' => e = .returned (.agg OPSV) ∧ w' = w.alloc (.cells OPSV 175) := by
  have hZ := zero99
  have hzs : Z99.size = 45 := rfl
  have HI := hide size99
  have HS := hide (show Z99.size = OPSV.size from rfl)
  have H1 := hide (show OPSV.all (·.oneCell') = true by kernel_rfl)
  go_enter Tryz.func119, Tryz.ntmps119
  go_wp2_with (refine wpList_store_new rfl 175 _ _ rfl Z99 OPSV rfl rfl rfl HI.out HS.out H1.out ?_)
  have hl := run_loadVar_new (P := Tryz.prog) w 175 OPSV _ _ Tryz.underlying175 size99
  exact bodyPost_ret (v := .agg OPSV) (results_cell Tryz.results119 rfl hl) rfl ⟨rfl, rfl⟩
theorem ops_index : ∀ k : Nat, k < 9 → ∀ W, (Instr.index 175 (.agg OPSV) (.int .i64 k)).run Tryz.prog W = .ok (.agg (opV k)) W := by
  intro k hk W
  rcases (by omega : k = 0 ∨ k = 1 ∨ k = 2 ∨ k = 3 ∨ k = 4 ∨ k = 5 ∨ k = 6 ∨ k = 7 ∨ k = 8) with h | h | h | h | h | h | h | h | h
  all_goals (subst h; kernel_rfl)
theorem of_ok (k : Nat) (hk : k < 9) (w : World) : Calls Tryz.prog 96 #[.int .i64 k] w fun e w' => e = .returned (.tuple #[.agg (opV k), .bool true]) ∧ Only [] w w' := by
  have hI := ops_index k hk
  have d1 : decide ((k : Int) < 0) = false := decide_eq_false (by omega)
  have d2 : decide ((8 : Int) < (k : Int)) = false := decide_eq_false (by omega)
  have d3 : decide (8 < k) = false := decide_eq_false (by omega)
  have i1 : ¬ ((k : Int) < 0) := by omega
  unfold opV at hI ⊢
  obtain ⟨s, hs⟩ : ∃ s, ByteArray.mk (nmB k).toArray = s := ⟨_, rfl⟩
  obtain ⟨d, hd⟩ : ∃ d, (shp k).d = d := ⟨_, rfl⟩
  obtain ⟨a, ha⟩ : ∃ d, (shp k).a = d := ⟨_, rfl⟩
  obtain ⟨b, hb⟩ : ∃ d, (shp k).b = d := ⟨_, rfl⟩
  obtain ⟨m, hm⟩ : ∃ m : Int, ((shp k).imm : Int) = m := ⟨_, rfl⟩
  rw [hs, hd, ha, hb, hm] at hI ⊢
  clear hs hd ha hb hm hk
  go_enter Tryz.func96, Tryz.ntmps96
  go_wp2_with (go_at_call 119; (with_reducible refine (ops_any _).mono ?_); rintro e w1 ⟨rfl, rfl⟩)
  refine bodyPost_ret (v := .tuple #[.agg #[.string s, .bool d, .bool a, .bool b, .int .i64 m], .bool true]) ?_ rfl ⟨rfl, ?_⟩
  · simp [results, Tryz.results96, go_sem]
  · exact ((Only.refl [] w).alloc _).alloc _
theorem of_bad (o : Int) (ho : o < 0 ∨ 8 < o) (w : World) : Calls Tryz.prog 96 #[.int .i64 o] w fun e w' => e = .returned (.tuple #[.agg #[.string ⟨#[]⟩, .bool false, .bool false, .bool false, .int .i64 0], .bool false]) ∧ Only [] w w' := by
  go_enter Tryz.func96, Tryz.ntmps96
  by_cases h : o < 0
  · have d1 : decide (o < 0) = true := decide_eq_true h
    go_wp2_with fail
    exact bodyPost_ret (v := .tuple #[.agg #[.string ⟨#[]⟩, .bool false, .bool false, .bool false, .int .i64 0], .bool false]) (by simp [results, Tryz.results96, go_sem]) rfl ⟨rfl, (Only.refl [] w).alloc _⟩
  · have d1 : decide (o < 0) = false := decide_eq_false h
    have d2 : decide (8 < o) = true := decide_eq_true (by omega)
    go_wp2_with fail
    exact bodyPost_ret (v := .tuple #[.agg #[.string ⟨#[]⟩, .bool false, .bool false, .bool false, .int .i64 0], .bool false]) (by simp [results, Tryz.results96, go_sem]) rfl ⟨rfl, (Only.refl [] w).alloc _⟩
theorem reg_any (n : Bool) (x : Int) (w : World) : Calls Tryz.prog 132 #[.int .i64 x, .bool n] w fun e w' => e = .returned (.bool (regOk n x)) ∧ w' = w := by
  go_enter Tryz.func132, Tryz.ntmps132
  cases n
  all_goals go_wp2_with fail
  all_goals go_ret
  all_goals (refine ⟨?_, rfl⟩; first | (simp [regOk, *]; done) | (simp [regOk, *]; omega) | (simp [regOk]; rfl))
end Go.Proofs.YteblhklclcjonaaGreatDoor
