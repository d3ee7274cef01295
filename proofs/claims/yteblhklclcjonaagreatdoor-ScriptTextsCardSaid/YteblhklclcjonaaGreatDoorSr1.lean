/- Script: the walk of count. Condition: Env; a text of at most 2000000 bytes. -/
import Derived.Test.YteblhklclcjonaaGreatDoorSc5
import Derived.Test.YteblhklclcjonaaGreatDoorCd9
import Derived.Scope
import Derived.OwnWalk
namespace Go.Proofs.YteblhklclcjonaaGreatDoor
open Go.RowKit
set_option linter.unusedVariables false
set_option linter.all false
set_option maxRecDepth 20000

set_option maxHeartbeats 4000000 in
theorem count_any (t : List UInt8) (ht : t.length ≤ 2000000) (w : World) (he : Env w) (hw4 : 4 ≤ w.heap.size) : Calls Tryz.prog 53 #[.string (bs t)] w fun e w' => e = .returned (.int .i64 (cnt t : Nat)) ∧ Only [] w w' := by
  have HE := hide he
  obtain ⟨K, hK⟩ : ∃ K, cnt t = K := ⟨_, rfl⟩
  rw [hK]
  have HK := hide hK
  clear he hK
  go_enter Tryz.func53, Tryz.ntmps53
  go_wp2_with fail
  first | apply wp_scope_straight | skip
  go_wp2_with fail
  first | apply wp_label | skip
  go_wp2_with fail
  go_loopw [0, 3] (fun vt vn wr => ∃ (r : List UInt8) (q : Nat), vt = .string (bs r) ∧ vn = .int .i64 q ∧ r.length + q ≤ t.length ∧ Hid (q + cnt r = K) ∧ Hid (Only [] w wr)) (fun vt _ _ => match vt with | .string b => b.size | _ => 0)
  case atStart => exact ⟨t, 0, rfl, rfl, by omega, hide (by rw [HK.out]; omega), hide (Only.refl _ _)⟩
  case round =>
    obtain ⟨r, q, rfl, rfl, hl, hq, hO⟩ := hrel
    have CT := cut_any (bs r) 10 (by rw [bs_size]; omega) wr (HE.out.only hO.out)
    rw [bs_list] at CT
    have hcl := cut_len 10 r
    have hst := @cnt_stop r
    have hnx := @cnt_next r
    obtain ⟨l1, hl1⟩ : ∃ x, (cutAt 10 r).1 = x := ⟨_, rfl⟩
    obtain ⟨l2, hl2⟩ : ∃ x, (cutAt 10 r).2.1 = x := ⟨_, rfl⟩
    obtain ⟨l3, hl3⟩ : ∃ x, (cutAt 10 r).2.2 = x := ⟨_, rfl⟩
    rw [hl1, hl2, hl3] at CT hcl
    rw [hl1, hl3] at hst
    rw [hl1, hl2, hl3] at hnx
    have CT := hide (show Calls Tryz.prog 32 #[.string (bs r), .string ⟨#[10]⟩] wr fun e w' => e = .returned (.tuple #[.string (bs l1), .string (bs l2), .bool l3]) ∧ Only [] wr w' from CT)
    have hs0 := hO.out.size
    have PW := hide (fun W (o : Only [] wr W) => parse_walk l1 (by omega) W (HE.out.only (hO.out.trans0 o)) (by have := o.size; omega))
    have HST := hide hst
    have HNX := hide hnx
    clear hl1 hl2 hl3 hst hnx
    cases hpp : parP l1 with
    | none =>
      have PW2 := PW.out
      rw [hpp] at PW2
      unfold parV z5 at PW2
      have PW := hide PW2
      have HZ := hide (show cnt r = 0 from HST.out (by rw [hpp]; simp))
      clear PW2 hpp
      cases l3
      all_goals
        go_wp2_with (first
            | (go_at_call 32; (with_reducible refine CT.out.mono ?_); rintro e w2 ⟨rfl, o2⟩; have O2 := hide o2; clear o2)
            | (go_at_call 78; (with_reducible refine (PW.out _ O2.out).mono ?_); rintro e w3 ⟨rfl, o3⟩; have O3 := hide (((hO.out.trans0 O2.out).trans0 o3).alloc (.cells #[.int .i64 0, .int .i64 0, .int .i64 0, .int .i64 0, .int .i64 0] 99)); clear o3))
        (try simp only [Exit.noGoto])
        go_ret
        refine ⟨?_, O3.out⟩
        have h1 := hq.out
        have h2 := HZ.out
        have h3 : q = K := by omega
        rw [h3]; rfl
    | some i =>
      have PW2 := PW.out
      rw [hpp] at PW2
      unfold parV at PW2
      simp only at PW2
      have hI5 : insV i = #[.int .i64 i.op, .int .i64 i.d, .int .i64 i.a, .int .i64 i.b, .int .i64 i.imm] := rfl
      rw [hI5] at PW2
      have PW := hide PW2
      clear PW2 hI5
      cases l3 with
      | false =>
        have HZ := hide (show cnt r = 0 from HST.out (by simp))
        clear hpp
        go_wp2_with (first
            | (go_at_call 32; (with_reducible refine CT.out.mono ?_); rintro e w2 ⟨rfl, o2⟩; have O2 := hide o2; clear o2)
            | (go_at_call 78; (with_reducible refine (PW.out _ O2.out).mono ?_); rintro e w3 ⟨rfl, o3⟩; have O3 := hide (((hO.out.trans0 O2.out).trans0 o3).alloc (.cells #[.int .i64 i.op, .int .i64 i.d, .int .i64 i.a, .int .i64 i.b, .int .i64 i.imm] 99)); clear o3))
        (try simp only [Exit.noGoto])
        go_ret
        refine ⟨?_, O3.out⟩
        have h1 := hq.out
        have h2 := HZ.out
        have h3 : q = K := by omega
        rw [h3]; rfl
      | true =>
        have HN := hide (show cnt r = cnt l2 + 1 from HNX.out ⟨rfl, by rw [hpp]; rfl⟩)
        simp only [if_true] at hcl
        clear hpp
        go_wp2_with (first
            | (go_at_call 32; (with_reducible refine CT.out.mono ?_); rintro e w2 ⟨rfl, o2⟩; have O2 := hide o2; clear o2)
            | (go_at_call 78; (with_reducible refine (PW.out _ O2.out).mono ?_); rintro e w3 ⟨rfl, o3⟩; have O3 := hide (((hO.out.trans0 O2.out).trans0 o3).alloc (.cells #[.int .i64 i.op, .int .i64 i.d, .int .i64 i.a, .int .i64 i.b, .int .i64 i.imm] 99)); clear o3))
        go_roundw
        case rel => exact ⟨l2, q + 1, rfl, by go_num, by omega, hide (by have h1 := hq.out; have h2 := HN.out; omega), O3⟩
        case measure => simp [bs_size]; omega
end Go.Proofs.YteblhklclcjonaaGreatDoor
