/- Code: Parse's closures: the next word, a register. Condition: Env. -/
import Derived.Test.YteblhklclcjonaaGreatDoorCd6
namespace Go.Proofs.YteblhklclcjonaaGreatDoor
open Go.RowKit
set_option linter.unusedVariables false
set_option linter.all false
set_option maxRecDepth 20000

theorem Env.far {w w' : World} {S : List Nat} (h : Env w) (o : Only S w w') (hS : ∀ x ∈ S, 4 ≤ x) : Env w' := by
  obtain ⟨m, hm⟩ := h.len
  obtain ⟨t, p, hp⟩ := h.es
  obtain ⟨t', p', hp'⟩ := h.er
  refine ⟨?_, ⟨m, o.keep hm (fun hx => by have := hS _ hx; simp at this)⟩, ⟨t, p, o.keep hp (fun hx => by have := hS _ hx; simp at this)⟩, ⟨t', p', o.keep hp' (fun hx => by have := hS _ hx; simp at this)⟩⟩
  have hg : Tryz.prog.globalNamed "internal/strconv.uint64pow10" = some 3 := by kernel_rfl
  have ht := h.tab
  unfold Lib.TabIs World.var? at ht ⊢
  rw [hg] at ht ⊢
  simp only [Option.bind_some] at ht ⊢
  have hl : 3 < w.heap.size := by
    rcases Nat.lt_or_ge 3 w.heap.size with q | q
    · exact q
    · rw [Array.getElem?_eq_none q] at ht; simp at ht
  rw [o.block 3 hl (fun hx => by have := hS _ hx; omega)]
  exact ht
theorem next_any (R : Nat) (r : List UInt8) (w : World) (he : Env w) (hr : r.length ≤ 4000000) (hb : Blk w R 9 #[.string (bs r)]) :
    Calls Tryz.prog 99 #[.pointer (some ⟨R, 0, none⟩)] w fun e w' => e = .returned (.string (bs (cutAt 32 r).1)) ∧ Blk w' R 9 #[.string (bs (cutAt 32 r).2.1)] ∧ Only [R] w w' := by
  have CT := cut_any (bs r) 32 (by rw [bs_size]; exact hr) w he
  rw [bs_list] at CT
  have CT := hide CT
  have k0 := hb.cell 0
  have HB := hide hb
  clear hb
  go_enter Tryz.func99, Tryz.ntmps99
  go_wp2_with (go_at_call 32; (with_reducible refine CT.out.mono ?_); rintro e w1 ⟨rfl, o1⟩; have B1 := HB.out.only o1 (by simp); have t0 := B1.cell 0; have f0 := B1.frozen 0; have O1 := hide o1; clear o1)
  go_ret
  exact ⟨rfl, B1.set_ 0 (.string (bs (cutAt 32 r).2.1)), (O1.out.mono (T := [R]) (by simp)).setCell (p := ⟨R, 0, none⟩) (.inl (by simp)) _⟩
theorem cut_le (c : UInt8) (r : List UInt8) : (cutAt c r).1.length ≤ r.length ∧ (cutAt c r).2.1.length ≤ r.length := by
  have := cut_len c r
  omega
theorem reg_next (n : Bool) (R F : Nat) (r : List UInt8) (w : World) (he : Env w) (hr : r.length ≤ 4000000) (hR : 4 ≤ R) (hb : Blk w R 9 #[.string (bs r)]) (hF : Blk w F 90 #[.func (.func 99) #[] #[.pointer (some ⟨R, 0, none⟩)]]) :
    Calls Tryz.prog 100 #[.bool n, .pointer (some ⟨F, 0, none⟩)] w fun e w' => e = .returned (.int .i64 (regP n r).1) ∧ Blk w' R 9 #[.string (bs (regP n r).2)] ∧ Only [R] w w' := by
  have HB := hide hb
  have k0 := hF.cell 0
  cases n with
  | false =>
    clear hb
    go_enter Tryz.func100, Tryz.ntmps100
    go_wp2_with fail
    go_ret
    exact ⟨rfl, HB.out, Only.refl _ _⟩
  | true =>
    have NX := hide (next_any R r w he hr hb)
    have TR := trim_any (bs (cutAt 32 r).1) 114
    rw [bs_list] at TR
    have TR := hide TR
    have htl : (Lib.trimPrefix (cutAt 32 r).1 [114]).length ≤ 4000000 := by
      have := (cut_le 32 r).1
      unfold Lib.trimPrefix
      split
      · simp; omega
      · omega
    have HT := hide htl
    have EV := hide (fun V (o : Only [R] w V) => he.far o (by simpa using hR))
    clear hb htl he
    go_enter Tryz.func100, Tryz.ntmps100
    go_wp2_with (first
      | (go_at_call 99; (with_reducible refine NX.out.mono ?_); rintro e w1 ⟨rfl, b1, o1⟩; have B1 := hide b1; have O1 := hide o1; clear b1 o1)
      | (go_at_call 101; (with_reducible refine (TR.out _).mono ?_); rintro e w' ⟨rfl, hw⟩; obtain rfl := hw.symm; clear hw)
      | (go_at_call 33; refine (atoi_any (bs (Lib.trimPrefix (cutAt 32 r).1 [114])) (by rw [bs_size]; exact HT.out) _ (EV.out _ O1.out)).mono ?_; rintro e w2 ⟨⟨x, rfl⟩, o2⟩; have O2 := hide (O1.out.trans0 o2); have B2 := hide (B1.out.only o2 (by simp)); clear o2))
    go_ret
    refine ⟨?_, B2.out, O2.out⟩
    unfold regP
    rw [bs_list]
    rfl
end Go.Proofs.YteblhklclcjonaaGreatDoor
