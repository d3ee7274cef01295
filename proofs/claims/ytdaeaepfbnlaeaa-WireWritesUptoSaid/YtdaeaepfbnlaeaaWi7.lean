/- Walks over wire's law: known; Put and Take where nothing is there. No condition. -/
import Derived.Test.YtdaeaepfbnlaeaaWi6
namespace Go.Proofs.Ytdaeaepfbnlaeaa
open Go.RowKit
set_option linter.unusedVariables false
set_option linter.all false
set_option maxRecDepth 20000

theorem src_lit (w : World) (ds : List UInt8) : Src (w.alloc (.cells (U8s ds).toArray 5)) (some ⟨w.heap.size, 0, none⟩) ds := fun _ => ⟨_, rfl, fun j u hj => by
  rw [add_mk, Nat.zero_add, (Blk.new w 5 _).cell j, List.getElem?_toArray, hj]⟩
theorem run_str_any (A : Option Addr) (n c : Nat) (ds : List UInt8) (w : World) (hl : ds.length = n) (hs : Src w A ds) : (convert 23 9 (.slice A n c)).run Try.prog w = .ok (.string ⟨ds.toArray⟩) w :=
  run_str (P := Try.prog) (dst := 9) Try.underlying23 Try.underlying5 Try.underlying9 n c hl hs

def kb : List UInt8 := [128, 1, 2, 97, 98]
theorem kn1 : resN (kb.drop 0) = (128, 0, 2) := by kernel_rfl
theorem kn2 : resB 2 (kb.drop 2) = (0, [97, 98], 3) := by kernel_rfl
theorem kn3 : resN (([128, 0] : List UInt8).drop 0) = (0, 4, 0) := by kernel_rfl
theorem kn4 : numF (zig (-1)) = [1] := by
  rw [show zig (-1) = 1 from rfl, numF_small (by omega)]; rfl
theorem kn5 : numF 300 = [172, 2] := by
  rw [numF_big (by omega), numF_small (by omega)]; rfl

set_option maxHeartbeats 2000000 in
theorem known_any (w : World) : Calls Try.prog 18 #[] w fun e w' => e = .returned (.bool true) ∧ Only [] w w' := by
  go_enter Try.func18, Try.ntmps18
  go_wp2_with fail
  refine (open_any _ 5 5 kb _ rfl (by omega) (src_lit w kb)).mono ?_
  rintro e w1 ⟨o1, g, gb, cap, rfl, hR, hg, hgb⟩
  have o1' : Only [] w w1 := ((Only.refl [] w).alloc _).trans0 o1
  have hsz : w.heap.size ≤ g ∧ w.heap.size ≤ gb := by simp at hg hgb; omega
  clear o1 hg hgb
  go_wp2_with fail
  have hn := rdnumber_any hR
  unfold NumRead at hn
  rw [kn1] at hn
  refine hn.mono ?_
  rintro e w2 ⟨rfl, o2, hR2⟩
  have o2' : Only [] w w2 := o1'.trans o2 (fun x hx => .inr (by simp at hx; omega))
  clear hn hR o2 o1'
  go_wp2_with fail
  have hB := rdbytes_any 2 (by omega) hR2
  rw [show List.drop (0 + (128, (0 : Int), 2).2.2) kb = kb.drop 2 from rfl, kn2] at hB
  refine hB.mono ?_
  rintro e w3 ⟨o3, hR3, A, c, rfl, hrow⟩
  have o3' : Only [] w w3 := o2'.trans o3 (fun x hx => .inr (by simp at hx; omega))
  have hs := Src.own hrow
  have hR3' : Rd w3 g gb cap kb 5 := hR3
  have hlt3 := hR3'.lt
  have hAlt : ∀ k ∈ blkOf A, k < w3.heap.size := fun k hk => (own_ge hrow k hk).2
  clear hB hR2 o3 o2' hrow hR3
  go_wp2_with fail
  refine (open_any _ 2 2 [128, 0] _ rfl (by omega) (src_lit w3 [128, 0])).mono ?_
  rintro e w4 ⟨o4, g4, gb4, cap4, rfl, hR4, hg4, hgb4⟩
  have o34 : Only [] w3 w4 := ((Only.refl [] w3).alloc _).trans0 o4
  have hR3' := hR3'.only0 o34
  have hs := hs.only0 o34
  have o4' := o3'.trans0 o34
  have hsz4 : w3.heap.size ≤ g4 ∧ w3.heap.size ≤ gb4 := by simp at hg4 hgb4; omega
  have hs3 := o3'.size
  go_wp2_with fail
  have hn4 := rdnumber_any hR4
  unfold NumRead at hn4
  rw [kn3] at hn4
  refine hn4.mono ?_
  clear hn4
  rintro e w5 ⟨rfl, o5, hR5⟩
  have hR5' := hR3'.only o5 (by simp; omega) (by simp; omega)
  have hs5 := hs.only o5 (fun ad had _ => by have := hAlt ad.block (by simp [had, blkOf]); simp; omega)
  have e1 := run_str_any A 2 c [97, 98] w5 rfl hs5
  have o5' : Only [] w w5 := o4'.trans o5 (fun x hx => .inr (by simp at hx; omega))
  clear hR5 hs hs5 hAlt o4' o34 hR3' o4 hR4
  have hl := left_any hR5'
  rw [show ((kb.length - 5 : Nat) : Int) = 0 from rfl] at hl
  have he := fun k => end_any (hR5'.only0 ((Only.refl [] _).drewN k))
  rw [show (if kb.length ≤ 5 then (0 : Int) else 4) = 0 from rfl] at he
  have hsg := fun w => signed_any (-1) (by omega) (by omega) w
  rw [kn4] at hsg
  have hnn := fun w => number_any 300 (by omega) w
  rw [kn5] at hnn
  go_wp2_with (first
    | (go_at_call 24; refine (num_any _ _).mono ?_; rintro e w' ⟨rfl, rfl⟩)
    | (go_at_call 26; refine hl.mono ?_; rintro e w' ⟨rfl, k6, rfl⟩)
    | (go_at_call 25; refine (he _).mono ?_; rintro e w' ⟨rfl, k7, rfl⟩)
    | (go_at_call 13; refine (hsg _).mono ?_; rintro e w8 ⟨o8, g8, c8, rfl, hrow8⟩; have e8 := run_str_any (some ⟨g8, 0, none⟩) 1 c8 [1] w8 rfl (Src.own hrow8))
    | (go_at_call 9; refine (hnn _).mono ?_; rintro e w9 ⟨o9, g9, c9, rfl, hrow9⟩; have e9 := run_str_any (some ⟨g9, 0, none⟩) 2 c9 [172, 2] w9 rfl (Src.own hrow9)))
  go_ret
  exact ⟨rfl, ((o5'.drewN (k6 + k7)).trans0 o8).trans0 o9⟩

theorem eq68_nil (w : World) : (binOp .eql 68 .nilFunc .nilFunc).run Try.prog w = .ok (.bool true) w := by kernel_rfl
theorem eq68_some (f : FuncId) (a b : Array Value) (w : World) : (binOp .eql 68 (.func (.func f) a b) .nilFunc).run Try.prog w = .ok (.bool false) w := by kernel_rfl
theorem eq93_nil (w : World) : (binOp .eql 93 .nilFunc .nilFunc).run Try.prog w = .ok (.bool true) w := by kernel_rfl
theorem put_nil (w : World) : Calls Try.prog 33 #[.slice none 0 0, .nilFunc] w fun e w' => e = .returned (.tuple #[.slice none 0 0, .int .i64 1]) ∧ w = w' := by
  have hq := eq68_nil w
  go_enter Try.func33, Try.ntmps33
  go_wp2
  go_ret2
  exact ⟨rfl, rfl⟩
theorem put_empty (w : World) : Calls Try.prog 33 #[.slice none 0 0, .func (.func 34) #[] #[]] w fun e w' => Only [] w w' ∧ ∃ g c : Nat, e = .returned (.tuple #[.slice (some ⟨g, 0, none⟩) 1 c, .int .i64 0]) ∧ w'.ownsRow w.heap.size 5 1 (.slice (some ⟨g, 0, none⟩) 1 c) 1 (U8s [0]) := by
  have hnn := number_any 0 (by omega) w
  rw [show numF 0 = [0] from by rw [numF_small (by omega)]; rfl] at hnn
  have hq := eq68_some 34 #[] #[] w
  go_enter Try.func33, Try.ntmps33
  go_wp2_with fail
  refine hnn.mono ?_
  rintro e w1 ⟨o1, g, c, rfl, hrow⟩
  have HR := hide hrow
  clear hnn hrow
  go_wp2_with fail
  go_loopw [6, 17] (fun vb vi wr => vb = .slice (some ⟨g, 0, none⟩) 1 c ∧ vi = .int .i64 0 ∧ w1 = wr) (fun _ _ _ => 0)
  case atStart => exact ⟨rfl, rfl, rfl⟩
  case round =>
    obtain ⟨rfl, rfl, rfl⟩ := hrel
    go_wp2_with fail
    go_ret2
    exact ⟨o1, g, c, rfl, HR.out⟩
theorem take_nilfunc {g gb cap at_ : Nat} {bs : List UInt8} {w : World} (m : Int) (h : Rd w g gb cap bs at_) : Calls Try.prog 35 #[.pointer (some ⟨g, 0, none⟩), .int .i64 m, .nilFunc] w fun e w' => e = .returned (.tuple #[.slice none 0 0, .int .i64 1]) ∧ w = w' := by
  have H := hide h
  clear h
  have hq := eq93_nil w
  go_enter Try.func35, Try.ntmps35
  go_wp2_with (go_at_call 38; refine (there_yes H.out).mono ?_; rintro e w' ⟨rfl, rfl⟩)
  go_ret2
  exact ⟨rfl, rfl⟩
theorem take2_gone (p : Option Addr) (m : Int) (f : Value) (w : World) (h : Gone w p) : Calls Try.prog 29 #[.pointer p, .int .i64 m, f] w fun e w' => e = .returned (.tuple #[.slice none 0 0, .int .i64 1]) ∧ w = w' := by
  have H := hide h
  clear h
  go_enter Try.func29, Try.ntmps29
  go_wp2_with (go_at_call 38; refine (there_no _ _ H.out).mono ?_; rintro e w' ⟨rfl, rfl⟩)
  go_ret2
  exact ⟨rfl, rfl⟩

end Go.Proofs.Ytdaeaepfbnlaeaa
