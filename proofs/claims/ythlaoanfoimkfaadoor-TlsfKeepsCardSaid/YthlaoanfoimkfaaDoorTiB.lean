/- Tlsf: within, Get, Set, New. No condition but what each theorem says. -/
import Derived.Test.YthlaoanfoimkfaaDoorTiA
namespace Go.Proofs.YthlaoanfoimkfaaDoor
open Go.RowKit Go.Shelf
set_option linter.unusedVariables false
set_option linter.all false
set_option maxRecDepth 100000
attribute [local go_sem] Oper.semAt_some
theorem and_low (x : Int) (k : Nat) (hk : k ≤ 5) : bits .and .i64 x ((2 ^ k - 1 : Nat) : Int) = x % ((2 ^ k : Nat) : Int) := by
  have hp : 2 ^ k ≤ 2 ^ 5 := Nat.pow_le_pow_right (by omega) hk
  have h0 : 0 < 2 ^ k := Nat.pos_of_ne_zero (by simp)
  show IntKind.i64.wrap ((BitVec.ofInt 64 x &&& BitVec.ofInt 64 ((2 ^ k - 1 : Nat) : Int)).toNat : Int) = _
  have h3 : (BitVec.ofInt 64 ((2 ^ k - 1 : Nat) : Int)).toNat = 2 ^ k - 1 := by
    rw [BitVec.ofInt_natCast, BitVec.toNat_ofNat]; exact Nat.mod_eq_of_lt (by omega)
  rw [BitVec.toNat_and, h3, Nat.and_two_pow_sub_one_eq_mod, BitVec.toNat_ofInt, IntKind.wrap_i64]
  have : k = 0 ∨ k = 1 ∨ k = 2 ∨ k = 3 ∨ k = 4 ∨ k = 5 := by omega
  rcases this with rfl | rfl | rfl | rfl | rfl | rfl <;> omega
theorem and3 (x : Int) : bits .and .i64 x 3 = x % 4 := and_low x 2 (by omega)
theorem and31 (x : Int) : bits .and .i64 x 31 = x % 32 := and_low x 5 (by omega)
section
variable {w w' : World} {h g gb cap mb N bx : Nat} {m : Nat → Nat} {B : List Bk} {L : Nat → List Nat} {X Y Z : World}
/-- Is a word within one piece? -/
def inB (B : List Bk) (o : Int) : Bool := decide (o % 4 = 0) && B.any (fun b => decide (b.k = 0 ∧ (b.at' : Int) + 8 ≤ o ∧ o < (b.at' : Int) + b.size))
/-- A box has a truth value of which something holds. -/
def Ans (W : World) (s : Nat) (P : Bool → Prop) : Prop := ∃ v, Blk W s 4 #[.bool v] ∧ P v
theorem Ans.intro {W : World} {s : Nat} {P : Bool → Prop} {v : Bool} (a : Blk W s 4 #[.bool v]) (b : P v) : Ans W s P := ⟨v, a, b⟩
theorem wpIn_scope_wide {n : Nat} {P : Program} {c : Code} {Q : Exit → Act → World → Prop} {a : Act} {w : World} (h : c.wpIn Fence.wide n P (Exit.noGoto Q) a w) : (Code.scope c).wpIn Fence.wide n P Q a w :=
  wpIn_wide.2 (wp_scope_straight (wpIn_wide.1 h))
set_option maxHeartbeats 4000000 in
theorem within_odd (H : Hp w h g gb cap mb N B L m) (o : Int) (ho : o % 4 ≠ 0) : Calls Tryd.prog 37 #[.pointer (some ⟨h, 0, none⟩), .int .i64 o] w fun e w' => e = .returned (.bool (inB B o)) ∧ Only [g] w w' ∧ Hp w' h g gb cap mb N B L m := by
  have h1 : (bits .and .i64 o 3 == 0) = false := by rw [and3]; simp; exact ho
  have hf : inB B o = false := by unfold inB; simp [ho]
  rw [hf]
  have HH := Lib.hid H
  clear H hf
  refine (callsIn_wide (n := 8)).1 ?_
  refine callsIn_of_wp_marks Tryd.func37 rfl trivial ?_ rfl
  simp only [Tryd.ntmps37, List.size_toArray, List.length_cons, List.length_nil, Nat.reduceAdd, Nat.reduceSub, Array.replicate_succ, Array.replicate_zero, List.push_toArray, List.append_toArray, List.nil_append, List.cons_append]
  gi_wp2
  apply wpIn_scope_wide
  gi_wp2
  have oo := ((Only.refl [] w).alloc (.cells #[.int .i64 o] 3)).alloc (.cells #[.bool false] 4)
  exact ⟨.bool false, by simp [results, Tryd.results37, Tryd.f37, go_sem], rfl, oo.mono (by simp), HH.out.only0 oo⟩
theorem in_before {A C : List Bk} {x : Bk} {o : Int} (ht : Tile 112 (A ++ x :: C) N) (hall : ∀ b ∈ A ++ x :: C, b.k ≤ 1) (ho : o % 4 = 0) (ha : ∀ b ∈ A, (b.at' : Int) + b.size ≤ o) (hx : o < (x.at' : Int) + x.size) :
    inB (A ++ x :: C) o = (decide (x.k ≠ 1) && decide ((x.at' : Int) + 8 ≤ o)) := by
  have hp := ht.pos
  unfold inB
  rw [List.any_append, List.any_cons]
  have e1 : A.any (fun b => decide (b.k = 0 ∧ (b.at' : Int) + 8 ≤ o ∧ o < (b.at' : Int) + b.size)) = false := by
    rw [List.any_eq_false]
    intro b hb
    have := ha b hb
    simp; omega
  have e2 : C.any (fun b => decide (b.k = 0 ∧ (b.at' : Int) + 8 ≤ o ∧ o < (b.at' : Int) + b.size)) = false := by
    rw [List.any_eq_false]
    intro b hb
    have := hp.2.2.2.2.2.2.2.2 b hb
    simp; omega
  have hk := hall x (by simp)
  rw [e1, e2]
  have e3 : decide (o % 4 = 0) = true := by simp; exact ho
  rw [e3]
  by_cases h8 : (x.at' : Int) + 8 ≤ o
  · by_cases h1 : x.k = 1
    · simp [h1]
    · have : x.k = 0 := by omega
      simp [this, h8, hx]
  · simp [h8]
theorem in_none {o : Int} (ha : ∀ b ∈ B, (b.at' : Int) + b.size ≤ o) : inB B o = false := by
  unfold inB
  have e1 : B.any (fun b => decide (b.k = 0 ∧ (b.at' : Int) + 8 ≤ o ∧ o < (b.at' : Int) + b.size)) = false := by
    rw [List.any_eq_false]
    intro b hb
    have := ha b hb
    simp; omega
  rw [e1]; simp
set_option maxHeartbeats 4000000 in
theorem within_any (H : Hp w h g gb cap mb N B L m) (o : Int) (ho : o % 4 = 0) (hob : -9223372036854775808 ≤ o ∧ o < 9223372036854775808) : Calls Tryd.prog 37 #[.pointer (some ⟨h, 0, none⟩), .int .i64 o] w fun e w' => e = .returned (.bool (inB B o)) ∧ Only [g] w w' ∧ Hp w' h g gb cap mb N B L m := by
  have h1 : bits .and .i64 o 3 = 0 := by rw [and3]; exact ho
  have HH := Lib.hid H
  have hlt := H.lt
  clear H
  refine (callsIn_wide (n := 8)).1 ?_
  refine callsIn_of_wp_marks Tryd.func37 rfl trivial ?_ rfl
  simp only [Tryd.ntmps37, List.size_toArray, List.length_cons, List.length_nil, Nat.reduceAdd, Nat.reduceSub, Array.replicate_succ, Array.replicate_zero, List.push_toArray, List.append_toArray, List.nil_append, List.cons_append]
  gi_wp2
  apply wpIn_scope_wide
  gi_wp2
  apply wpIn_label
  gi_wp2_with (first
    | (refine ⟨trivial, ?_⟩; gi_at_call 53; refine (callsIn_wide.2 (all_any h _)).mono ?_; rintro e w1 ⟨rfl, o1, b1, hs1⟩))
  have co := ((Blk.new w 3 #[.int .i64 o]).alloc (.cells #[.bool false] 4)).only o1 (by simp)
  have cs := (Blk.new (w.alloc (.cells #[.int .i64 o] 3)) 4 #[.bool false]).only o1 (by simp)
  have O1 := ((((Only.refl [] w).alloc (.cells #[.int .i64 o] 3)).alloc (.cells #[.bool false] 4)).trans0 o1)
  have hsz : w1.heap.size = w.heap.size + 3 := by rw [hs1]; simp
  have M1 := HH.out.me.only0 O1
  simp only [World.size_alloc] at b1 cs
  obtain ⟨s, hs⟩ : ∃ s, w.heap.size = s := ⟨_, rfl⟩
  rw [hs] at hsz b1 co cs hlt
  simp only [hs, World.size_alloc]
  have ST := all_stops (w := w1) 7 (by decide) HH.out.inv HH.out.all M1 b1
  clear hs1 o1
  refine' wpIn_range_t (n := 8) (by decide) (gf := 79) (lb := #[.pointer (some ⟨s + 1 + 1, 0, none⟩)]) rfl (enters_of Tryd.func79 (by kernel_rfl) rfl)
    (g := g) (by omega) (fun A B h => h.1) ST (fun h k => h.trans k) (fun W l o o' hl h hc hw => KK.putObj W l o' (by omega) (by omega)) (fun _ => rfl)
    (fun pre W => Only [g, s + 1] w1 W ∧ Me W h g gb cap mb N m ∧ Blk W s 3 #[.int .i64 o] ∧ Blk W (s + 1) 4 #[.bool false] ∧ (pre <+: B → ∀ b ∈ pre, (b.at' : Int) + b.size ≤ o))
    (fun c pre W => c = .exit 0 ∧ Only [g, s + 1] w1 W ∧ Me W h g gb cap mb N m ∧ Ans W (s + 1) (fun v => pre <+: B → v = inB B o))
    (fun q0 A B row hq hg hr => by
      obtain ⟨h1, h2, h3, h4, h5⟩ := hq
      have o2 : Only (row.toList) A B := (Only.refl _ A).grown hg (fun q e => .inl (by simp [e]))
      have hn : ∀ q, row = some q → w1.heap.size ≤ q := fun q e => (hr q e).1
      refine ⟨h1.grown hg (fun q e => .inr (hn q e)), h2.only o2 ?_ ?_ ?_, h3.only o2 ?_, h4.only o2 ?_, h5⟩
      all_goals (cases row with | none => simp | some q => (simp; have := hn q rfl; omega)))
    (fun c q0 A B row hq hg hr => by
      obtain ⟨e1, h1, h2, hv⟩ := hq
      obtain ⟨v, h4, h5⟩ := hv
      have o2 : Only (row.toList) A B := (Only.refl _ A).grown hg (fun q e => .inl (by simp [e]))
      have hn : ∀ q, row = some q → w1.heap.size ≤ q := fun q e => (hr q e).1
      refine ⟨e1, h1.grown hg (fun q e => .inr (hn q e)), h2.only o2 ?_ ?_ ?_, Ans.intro (h4.only o2 ?_) h5⟩
      all_goals (cases row with | none => simp | some q => (simp; have := hn q rfl; omega)))
    (fun pre A B hq ht => by
      obtain ⟨h1, h2, h3, h4, h5⟩ := hq
      exact ⟨h1.trans ht.1 (by simp), ht.2 h2, h3.only ht.1 (by simp; omega), h4.only ht.1 (by simp; omega), h5⟩)
    ⟨Only.refl _ _, M1, co, cs, fun _ b hb => by simp at hb⟩
    (fun x a' W => ∃ bz, a' = { tmps := #[.pointer (some ⟨h, 0, none⟩), .int .i64 o, undef, .pointer (some ⟨s, 0, none⟩), .bool false, .pointer (some ⟨s + 1, 0, none⟩), .pointer (some ⟨bz, 0, none⟩), .int .i64 o, .int .i64 0, .bool false, .pointer (some ⟨h, 0, none⟩), .func (.func 79) #[] #[.pointer (some ⟨s + 1 + 1, 0, none⟩)], .agg #[.int .i64 x.at', .int .i64 x.size, .bool (x.k == 1)], undef, undef, undef, undef, undef, undef, undef, undef, undef, undef, undef, undef, undef, undef, undef, undef, undef, undef], defers := [] } ∧
      Blk W bz 42 #[.int .i64 x.at', .int .i64 x.size, .bool (x.k == 1)])
    (fun x a' s A B row hs hg hr => by obtain ⟨bz, hv, hz⟩ := hs; exact ⟨bz, hv, blk_turn hz hg (fun r e => (hr r e).2)⟩) ?assign ?body ?done ?stop
  case assign =>
    rintro l pre x W K ⟨h1, h2, h3, h4, h5⟩ hK
    unfold encB
    gi_wp2
    have oo := (Only.refl [] W).alloc (.cells #[.int .i64 x.at', .int .i64 x.size, .bool (x.k == 1)] 42)
    have hW := h1.size
    exact hK _ _ (kf_only0 oo) (KK.only oo (by simp) (by omega) (by simp)) ⟨h1.trans0 oo, h2.only0 oo, h3.only oo (by simp), h4.only oo (by simp), h5⟩ ⟨W.heap.size, rfl, Blk.new W 42 _⟩
  case body =>
    rintro l pre x a' W hl0 ⟨r0, hr0⟩ ⟨h1, h2, h3, h4, h5⟩ ⟨bz, rfl, hz⟩ hlen
    have z0 : W.cell? ⟨bz, 0, none⟩ = some (.int .i64 x.at') := by simpa using hz.cell 0
    have z1 : W.cell? ⟨bz, 1, none⟩ = some (.int .i64 x.size) := by simpa using hz.cell 1
    have z2 : W.cell? ⟨bz, 2, none⟩ = some (.bool (x.k == 1)) := by simpa using hz.cell 2
    have c0 : W.cell? ⟨s, 0, none⟩ = some (.int .i64 o) := by simpa using h3.cell 0
    have s0 : W.cell? ⟨s + 1, 0, none⟩ = some (.bool false) := by simpa using h4.cell 0
    have fz := h4.frozen 0
    have hW := h1.size
    have H3 := Lib.hid h3
    have H4 := Lib.hid h4
    have H5 := Lib.hid h5
    have HOB := Lib.hid hob
    have hpre : pre ++ [x] <+: B → pre <+: B ∧ ∃ C, B = pre ++ x :: C := fun hp => ⟨(List.prefix_append pre [x]).trans hp, by obtain ⟨C, e⟩ := hp; exact ⟨C, by rw [← e]; simp⟩⟩
    have hbd : pre ++ [x] <+: B → x.at' + x.size ≤ 65536 := fun hp => by
      obtain ⟨_, C, e⟩ := hpre hp
      have := Tile.mem HH.out.inv.tile x (by rw [e]; simp)
      have := HH.out.inv.size
      omega
    have hw1 : pre ++ [x] <+: B → wrap64 ((x.at' : Int) + (x.size : Int)) = (x.at' : Int) + x.size := fun hp => by
      have := hbd hp
      unfold wrap64; omega
    have hw2 : pre ++ [x] <+: B → wrap64 ((x.at' : Int) + 8) = (x.at' : Int) + 8 := fun hp => by
      have := hbd hp
      unfold wrap64; omega
    have hin : ∀ v, pre ++ [x] <+: B → o < (x.at' : Int) + x.size → v = (decide (x.k ≠ 1) && decide ((x.at' : Int) + 8 ≤ o)) → v = inB B o := fun v hp hx e => by
      obtain ⟨q, C, rfl⟩ := hpre hp
      rw [e, in_before HH.out.inv.tile (fun b hb => by have := HH.out.inv.kind b hb; have := HH.out.all b hb; omega) ho (H5.out q) hx]
    have HW1 := Lib.hid hw1
    have HW2 := Lib.hid hw2
    have HIN := Lib.hid hin
    clear h3 h4 h5 hw1 hw2 hin hbd hob
    try dsimp only
    by_cases hq : o < wrap64 ((x.at' : Int) + (x.size : Int))
    · by_cases hk : x.k = 1
      · have e1 : (x.k == 1) = true := by simp [hk]
        rw [e1] at z2
        gi_wp2
        have oS : Only [s + 1] W (W.setCell ⟨s + 1, 0, none⟩ (.bool false)) := (Only.refl [s + 1] W).setCell (.inl (by simp)) _
        refine ⟨(ko_of_only oS (fun k hk => by rw [List.mem_singleton.1 hk]; exact blk_cells H4.out)).from _, rfl, h1.trans oS (by simp), h2.only oS (by simp; omega) (by simp; omega) (by simp; omega), Ans.intro (by simpa using H4.out.set_ 0 _) (fun hp => ?_)⟩
        exact HIN.out _ hp (by rw [HW1.out hp] at hq; exact hq) (by simp [hk])
      · have e1 : (x.k == 1) = false := by simp [hk]
        rw [e1] at z2
        by_cases h8 : wrap64 ((x.at' : Int) + 8) ≤ o
        · gi_wp2
          have oS : Only [s + 1] W (W.setCell ⟨s + 1, 0, none⟩ (.bool true)) := (Only.refl [s + 1] W).setCell (.inl (by simp)) _
          refine ⟨(ko_of_only oS (fun k hk => by rw [List.mem_singleton.1 hk]; exact blk_cells H4.out)).from _, rfl, h1.trans oS (by simp), h2.only oS (by simp; omega) (by simp; omega) (by simp; omega), Ans.intro (by simpa using H4.out.set_ 0 _) (fun hp => ?_)⟩
          exact HIN.out _ hp (by rw [HW1.out hp] at hq; exact hq) (by rw [HW2.out hp] at h8; simp [hk, h8])
        · gi_wp2
          have oS : Only [s + 1] W (W.setCell ⟨s + 1, 0, none⟩ (.bool false)) := (Only.refl [s + 1] W).setCell (.inl (by simp)) _
          refine ⟨(ko_of_only oS (fun k hk => by rw [List.mem_singleton.1 hk]; exact blk_cells H4.out)).from _, rfl, h1.trans oS (by simp), h2.only oS (by simp; omega) (by simp; omega) (by simp; omega), Ans.intro (by simpa using H4.out.set_ 0 _) (fun hp => ?_)⟩
          exact HIN.out _ hp (by rw [HW1.out hp] at hq; exact hq) (by rw [HW2.out hp] at h8; simp; omega)
    · gi_wp2
      refine ⟨KeepsFrom.refl _ _, KK.only (Only.refl [] W) (by simp) (by omega) (by simp), h1, h2, H3.out, H4.out, fun hp b hb => ?_⟩
      obtain ⟨q, C, e⟩ := hpre hp
      rcases List.mem_append.1 hb with hb | hb
      · exact H5.out q b hb
      · rw [List.mem_singleton.1 hb]
        rw [HW1.out hp] at hq
        omega
  case done =>
    rintro D ys V1 hDa rfl ⟨h1, h2, h3, h4, h5⟩ hK1
    have s0 : V1.cell? ⟨s + 1, 0, none⟩ = some (.bool false) := by simpa using h4.cell 0
    have KD := Lib.hid hK1
    have ev := in_none (h5 (List.prefix_refl _))
    clear hK1 h5
    gi_wp2
    refine ⟨by simp, .inl ⟨_, _, rfl, run_takeDeferred KD.out, ?_⟩⟩
    have hgr := grownBy_putObj' V1 D (.deferred none)
    have o2 := only_put V1 D (.deferred none)
    have hW := h1.size
    have o3 : Only [g] w V1 := (O1.mono (by simp)).trans h1 (by simp; omega)
    refine ⟨.bool false, by simp [results, Tryd.results37, Tryd.f37, go_sem], by simp [ev], o3.grown hgr (fun k e => by cases e; exact .inr (by omega)), ?_⟩
    exact HH.out.read (o3.grown hgr (fun k e => by cases e; exact .inr (by omega))) (h2.only o2 (by simp; omega) (by simp; omega) (by simp; omega))
  case stop =>
    rintro D cc pre V1 hDa hpre ⟨rfl, h1, h2, hv⟩ hK1
    obtain ⟨v, h4, h5⟩ := hv
    have s0 : V1.cell? ⟨s + 1, 0, none⟩ = some (.bool v) := by simpa using h4.cell 0
    have KD := Lib.hid hK1
    have EV := Lib.hid (show v = inB B o from h5 hpre)
    clear hK1 h5
    gi_wp2
    refine ⟨by simp, .inl ⟨_, _, rfl, run_takeDeferred KD.out, ?_⟩⟩
    have hgr := grownBy_putObj' V1 D (.deferred none)
    have o2 := only_put V1 D (.deferred none)
    have hW := h1.size
    have o3 : Only [g] w V1 := (O1.mono (by simp)).trans h1 (by simp; omega)
    refine ⟨.bool v, by simp [results, Tryd.results37, Tryd.f37, go_sem], by rw [EV.out], o3.grown hgr (fun k e => by cases e; exact .inr (by omega)), ?_⟩
    exact HH.out.read (o3.grown hgr (fun k e => by cases e; exact .inr (by omega))) (h2.only o2 (by simp; omega) (by simp; omega) (by simp; omega))
end
end Go.Proofs.YthlaoanfoimkfaaDoor
namespace Go.Proofs.YthlaoanfoimkfaaDoor
open Go.RowKit
set_option linter.unusedVariables false
set_option linter.all false
set_option maxRecDepth 100000
section
variable {w w' : World} {h g gb cap mb N bx : Nat} {m : Nat → Nat} {B : List Bk} {L : Nat → List Nat} {X Y Z : World}
theorem within_all (H : Hp w h g gb cap mb N B L m) (o : Int) (hob : -9223372036854775808 ≤ o ∧ o < 9223372036854775808) : Calls Tryd.prog 37 #[.pointer (some ⟨h, 0, none⟩), .int .i64 o] w fun e w' => e = .returned (.bool (inB B o)) ∧ Only [g] w w' ∧ Hp w' h g gb cap mb N B L m := by
  by_cases ho : o % 4 = 0
  · exact within_any H o ho hob
  · exact within_odd H o ho
theorem get38 (H : Me w h g gb cap mb N m) {p : Nat} (hp : p < N) (h4 : p % 4 = 0) :
    Calls Tryd.prog 38 #[.pointer (some ⟨g, 0, none⟩), .int .i64 p] w fun e w' => e = .returned (.tuple #[.int .u32 (m p), .int .i64 0]) ∧ Only [g] w w' ∧ Me w' h g gb cap mb N m := by
  have hne := H.ne
  have hH := H.hdr
  obtain ⟨bs, c, hA, e1, e2⟩ := H.mem
  have hG := get_good g gb cap bs c p w hA (by omega) h4
  rw [wd_word bs h4, e2] at hG
  refine hG.mono ?_
  rintro e w' ⟨rfl, o1, c', hA'⟩
  exact ⟨rfl, o1, hH.only o1 (by simpa using hne.1), bs, c', hA', e1, e2⟩
theorem set70 (H : Me w h g gb cap mb N m) {p v : Nat} (hp : p < N) (h4 : p % 4 = 0) (hv : v < 4294967296) :
    Calls Tryd.prog 70 #[.pointer (some ⟨g, 0, none⟩), .int .i64 p, .int .u32 v] w fun e w' => e = .returned (.int .i64 0) ∧ Only [g, gb] w w' ∧ Me w' h g gb cap mb N (upd m p v) := by
  have hne := H.ne
  have hH := H.hdr
  obtain ⟨bs, c, hA, e1, e2⟩ := H.mem
  have hd := hA.d8
  refine (set_good g gb cap bs c p v w hA (by omega) h4 hv).mono ?_
  rintro e w' ⟨rfl, o1, c', hA'⟩
  refine ⟨rfl, o1, hH.only o1 (by simpa using hne), _, c', hA', by rw [length_splice _ _ _ (by simp [four]; omega)]; exact e1, ?_⟩
  rw [← e2, ← wd_set (by omega) h4 hv, lays_splice]; rfl
/-- A word within a piece. -/
theorem in_has {o : Int} (h : inB B o = true) : ∃ b ∈ B, b.k = 0 ∧ (b.at' : Int) + 8 ≤ o ∧ o < (b.at' : Int) + b.size ∧ o % 4 = 0 := by
  unfold inB at h
  rw [Bool.and_eq_true] at h
  obtain ⟨h1, h2⟩ := h
  obtain ⟨b, hb, h3⟩ := List.any_eq_true.1 h2
  have h1 := of_decide_eq_true h1
  have h3 := of_decide_eq_true h3
  exact ⟨b, hb, h3.1, h3.2.1, h3.2.2, h1⟩
theorem get_out (H : Hp w h g gb cap mb N B L m) {o : Int} (hob : -9223372036854775808 ≤ o ∧ o < 9223372036854775808) (hin : inB B o = false) :
    Calls Tryd.prog 9 #[.pointer (some ⟨h, 0, none⟩), .int .i64 o] w fun e w' => e = .returned (.tuple #[.int .u32 0, .int .i64 2]) ∧ Only [g] w w' ∧ Hp w' h g gb cap mb N B L m := by
  have HW := Lib.hid (within_all H o hob)
  rw [hin] at HW
  clear H hin
  go_enter Tryd.func9, Tryd.ntmps9
  go_wp2_with (first
    | (go_at_call 37; (with_reducible refine HW.out.mono ?_); rintro e w1 ⟨rfl, o1, H1⟩)
    | (go_at_call 36; refine (ask_any H1.me false).mono ?_; rintro e w2 ⟨rfl, rfl⟩))
  go_ret2
  exact ⟨by simp, o1, H1⟩
theorem get_in (H : Hp w h g gb cap mb N B L m) {p : Nat} (hin : inB B p = true) :
    Calls Tryd.prog 9 #[.pointer (some ⟨h, 0, none⟩), .int .i64 p] w fun e w' => e = .returned (.tuple #[.int .u32 (m p), .int .i64 0]) ∧ Only [g] w w' ∧ Hp w' h g gb cap mb N B L m := by
  obtain ⟨b, hb, q1, q2, q3, q4⟩ := in_has hin
  have hm := Tile.mem H.inv.tile b hb
  have hsz := H.inv.size
  have HW := Lib.hid (within_all H p (by omega))
  rw [hin] at HW
  clear hin
  have G := Lib.hid (fun w1 (M1 : Me w1 h g gb cap mb N m) => get38 M1 (p := p) (by omega) (by omega))
  have HH := Lib.hid H
  clear H q1 q2 q3 q4 hb hm
  go_enter Tryd.func9, Tryd.ntmps9
  go_wp2_with (first
    | (go_at_call 37; (with_reducible refine HW.out.mono ?_); rintro e w1 ⟨rfl, o1, H1⟩; have k0 : w1.cell? ⟨h, 0, none⟩ = some (.pointer (some ⟨g, 0, none⟩)) := (by simpa using H1.me.hdr.cell 0))
    | (go_at_call 36; refine (ask_any H1.me true).mono ?_; rintro e w2 ⟨rfl, rfl⟩)
    | (go_at_call 38; (with_reducible refine (G.out _ H1.me).mono ?_); rintro e w3 ⟨rfl, o3, M3⟩))
  go_ret2
  exact ⟨by simp, o1.trans o3 (by simp), H1.read o3 M3⟩
theorem set_out (H : Hp w h g gb cap mb N B L m) {o : Int} (hob : -9223372036854775808 ≤ o ∧ o < 9223372036854775808) (hin : inB B o = false) (v : Nat) :
    Calls Tryd.prog 32 #[.pointer (some ⟨h, 0, none⟩), .int .i64 o, .int .u32 v] w fun e w' => e = .returned (.int .i64 2) ∧ Only [g] w w' ∧ Hp w' h g gb cap mb N B L m := by
  have HW := Lib.hid (within_all H o hob)
  rw [hin] at HW
  clear H hin
  go_enter Tryd.func32, Tryd.ntmps32
  go_wp2_with (first
    | (go_at_call 37; (with_reducible refine HW.out.mono ?_); rintro e w1 ⟨rfl, o1, H1⟩)
    | (go_at_call 36; refine (ask_any H1.me false).mono ?_; rintro e w2 ⟨rfl, rfl⟩))
  go_ret
  exact ⟨rfl, o1, H1⟩
theorem set_in (H : Hp w h g gb cap mb N B L m) {p v : Nat} (hin : inB B p = true) (hv : v < 4294967296) :
    Calls Tryd.prog 32 #[.pointer (some ⟨h, 0, none⟩), .int .i64 p, .int .u32 v] w fun e w' => e = .returned (.int .i64 0) ∧ Only [g, gb] w w' ∧ Hp w' h g gb cap mb N B L (upd m p v) := by
  obtain ⟨b, hb, q1, q2, q3, q4⟩ := in_has hin
  have hm := Tile.mem H.inv.tile b hb
  have hsz := H.inv.size
  have HW := Lib.hid (within_all H p (by omega))
  rw [hin] at HW
  have G := Lib.hid (fun w1 (M1 : Me w1 h g gb cap mb N m) => set70 M1 (p := p) (v := v) (by omega) (by omega) hv)
  have hoff : Inv N (upd m p v) B L := H.inv.off fun x hx => upd_ne (fun e => hx (by rw [e]; exact Off.of_used H.inv.tile hb q1 (by omega) (by omega)))
  have HO := Lib.hid hoff
  clear H q1 q2 q3 q4 hb hm hin hoff
  go_enter Tryd.func32, Tryd.ntmps32
  go_wp2_with (first
    | (go_at_call 37; (with_reducible refine HW.out.mono ?_); rintro e w1 ⟨rfl, o1, H1⟩; have k0 : w1.cell? ⟨h, 0, none⟩ = some (.pointer (some ⟨g, 0, none⟩)) := (by simpa using H1.me.hdr.cell 0))
    | (go_at_call 36; refine (ask_any H1.me true).mono ?_; rintro e w2 ⟨rfl, rfl⟩)
    | (go_at_call 70; (with_reducible refine (G.out _ H1.me).mono ?_); rintro e w3 ⟨rfl, o3, M3⟩))
  go_ret
  obtain ⟨U, hP, hU⟩ := H1.pc
  have hne := H1.ne
  exact ⟨rfl, (o1.mono (by simp)).trans o3 (by simp), M3, HO.out, H1.all, U, hP.only o3 (by simp; omega), hU⟩
theorem und74 : Tryd.prog.underlying 74 = some (.map (Tryd.prog.mapKeyOf 74) (Tryd.prog.mapElemOf 74)) := by kernel_rfl
theorem Pc.len {U : List Nat} (h : Pc w mb U) : (Builtin.len_ #[74] 3 #[.map (some mb)]).run Tryd.prog w = .ok (.int .i64 U.length) w := by
  obtain ⟨⟨es, clock, h1, hn⟩, _⟩ := h
  have := run_len_map (P := Tryd.prog) w 74 3 mb es clock und74 h1.heap
  rw [this, hn]; rfl
theorem len_pieces (H : Hp w h g gb cap mb N B L m) : Calls Tryd.prog 40 #[.pointer (some ⟨h, 0, none⟩)] w fun e w' => e = .returned (.int .i64 (used B).length) ∧ w = w' := by
  have k1 : w.cell? ⟨h, 1, none⟩ = some (.map (some mb)) := by simpa using H.me.hdr.cell 1
  have HT := Lib.hid (there_any H.me)
  obtain ⟨U, hP, hU⟩ := H.pc
  have hl := hU.length_eq
  rw [← hl]
  have e1 := hP.len
  clear H
  go_enter Tryd.func40, Tryd.ntmps40
  go_wp2_with (first
    | (go_at_call 56; (with_reducible refine HT.out.mono ?_); rintro e w1 ⟨rfl, rfl⟩)
    | (rw [e1]; simp only [Result.andThen]))
  go_ret
  exact ⟨by simp [hl], rfl⟩
end
end Go.Proofs.YthlaoanfoimkfaaDoor
namespace Go.Proofs.YthlaoanfoimkfaaDoor
open Go.RowKit
set_option linter.unusedVariables false
set_option linter.all false
set_option maxRecDepth 100000
theorem src_lit (w : World) (ds : List UInt8) : Src (w.alloc (.cells (U8s ds).toArray 5)) (some ⟨w.heap.size, 0, none⟩) ds := fun _ => ⟨_, rfl, fun j u hj => by
  rw [show (⟨w.heap.size, 0, none⟩ : Addr).add j = ⟨w.heap.size, j, none⟩ from by unfold Addr.add; split <;> simp_all]
  rw [(Blk.new w 5 _).cell j, List.getElem?_toArray, hj]⟩
section
variable {w w' : World} {h g gb cap mb N bx : Nat} {m : Nat → Nat} {B : List Bk} {L : Nat → List Nat} {X Y Z : World}
theorem inv_new (hN : 256 ≤ N ∧ N ≤ 65536 ∧ N % 8 = 0) : Inv N (fun _ => 0) ([] ++ ⟨112, N - 112, 2⟩ :: []) (fun _ => []) := by
  refine ⟨hN, ⟨rfl, by show 16 ≤ N - 112; omega, by show (N - 112) % 8 = 0; omega, by show 112 + (N - 112) = N; omega⟩, rfl, ?_, ?_, ?_, fun _ _ => rfl, fun _ _ => trivial, fun c _ => by simp, by decide, ?_, fun _ => List.nodup_nil⟩
  · intro b hb hk
    rw [show b = ⟨112, N - 112, 2⟩ by simpa using hb] at hk
    exact absurd rfl hk
  · intro b hb hk
    rw [show b = ⟨112, N - 112, 2⟩ by simpa using hb] at hk
    exact absurd rfl hk
  · intro b hb
    rw [show b = ⟨112, N - 112, 2⟩ by simpa using hb]
    exact Nat.le_refl 2
  · intro c a
    constructor
    · intro ha; simp at ha
    · rintro ⟨b, hb, _, hk, _⟩
      rw [show b = ⟨112, N - 112, 2⟩ by simpa using hb] at hk
      simp at hk
theorem wd_zero (n : Nat) : wd (List.replicate n 0) = fun _ => 0 := by
  have hb : ∀ x, byt (List.replicate n 0) x = 0 := fun x => by
    unfold byt
    rw [List.getD_eq_getElem?_getD]
    cases h : (List.replicate n (0 : UInt8))[x]? with
    | none => rfl
    | some v =>
      obtain ⟨hx, e⟩ := List.getElem?_eq_some_iff.1 h
      simp at e
      subst e
      rfl
  funext x
  unfold wd
  simp [hb]
set_option maxHeartbeats 2000000 in
theorem new_heap (hA : Ar w g gb cap (List.replicate N 0) 0) (hN : 256 ≤ N ∧ N ≤ 65536 ∧ N % 8 = 0) :
    Calls Tryd.prog 14 #[.pointer (some ⟨g, 0, none⟩)] w fun e w' => ∃ h mb m, e = .returned (.tuple #[.pointer (some ⟨h, 0, none⟩), .int .i64 0]) ∧ Only [g, gb] w w' ∧
      Hp w' h g gb cap mb N [⟨112, N - 112, 1⟩] (insL (fun _ => []) (cls (N - 112)) 112) m ∧ w.heap.size ≤ h ∧ w.heap.size ≤ mb := by
  obtain ⟨i0, hi, hz0, hz1, hz2⟩ := info_parts u8_info
  have hmk : ∀ W : World, (Instr.makeSlice 38 (.int .i64 (N : Int)) (.int .i64 (N : Int))).run Tryd.prog W = .ok (.slice (some ⟨W.heap.size, 0, none⟩) N N) (W.alloc (.cells (madeCells #[.int .u8 0] N) 5)) := fun W => by
    have h := run_make (P := Tryd.prog) W 38 5 i0 (.int .u8 0) Tryd.underlying38 hi hz0 .i64 .i64 N N (by omega) (by omega) (by rw [hz2]; omega) (by omega)
    rw [hz1] at h
    simpa [Value.cells] using h
  have hm : madeCells #[Value.int .u8 0] N = (U8s (List.replicate N 0)).toArray := by
    apply Array.toList_inj.1
    rw [toList_madeCells_one]
    simp [U8s, U8]
  rw [hm] at hmk
  have hN0 : ((N : Int) == 0) = false := by simp; omega
  have hl : (List.replicate N (0 : UInt8)).length = N := by simp
  have SZ : Hid (∀ w1, Only [] w w1 → Calls Tryd.prog 42 #[.pointer (some ⟨g, 0, none⟩)] w1 fun e w' => e = .returned (.int .i64 N) ∧ w1 = w') := Lib.hid fun w1 o => by
    have := size_any g gb cap _ 0 w1 (hA.only o (by simp) (by simp))
    rw [hl] at this; exact this
  have WR : Hid (∀ w1 q, Only [] w w1 → w1.heap.size = q → Calls Tryd.prog 43 #[.pointer (some ⟨g, 0, none⟩), .int .i64 0, .slice (some ⟨q, 0, none⟩) N N] (w1.alloc (.cells (U8s (List.replicate N 0)).toArray 5)) fun e w' => e = .returned (.int .i64 0) ∧ Only [gb] (w1.alloc (.cells (U8s (List.replicate N 0)).toArray 5)) w' ∧ Ar w' g gb cap (List.replicate N 0) 0) := Lib.hid fun w1 q o e0 => by
    subst e0
    have A1 := hA.only (o.alloc (.cells (U8s (List.replicate N 0)).toArray 5)) (by simp) (by simp)
    have := write_good g gb cap N N (List.replicate N 0) 0 0 (some ⟨w1.heap.size, 0, none⟩) (List.replicate N 0) _ A1 hl (by simp) (src_lit w1 _)
    have e : splice (List.replicate N (0 : UInt8)) 0 (List.replicate N 0) = List.replicate N 0 := by simp [splice]
    rw [e] at this
    exact this
  have SET : Hid (∀ w1 h mb, Me w1 h g gb cap mb N (fun _ => 0) → Calls Tryd.prog 44 #[.pointer (some ⟨h, 0, none⟩), .int .i64 116, .int .i64 0] w1 fun e w' => e = .returned (.tuple #[]) ∧ Only [g, gb] w1 w' ∧ Me w' h g gb cap mb N (fun _ => 0)) := Lib.hid fun w1 h mb M => by
    have := set_any M (p := 116) (v := 0) (by omega) (by omega) (by omega)
    rw [show upd (fun _ => 0) 116 0 = (fun _ => 0) by funext x; unfold upd; split <;> rfl] at this
    exact this
  have PUT : Hid (∀ w1 h mb, Me w1 h g gb cap mb N (fun _ => 0) → Calls Tryd.prog 45 #[.pointer (some ⟨h, 0, none⟩), .int .i64 112, .int .i64 ((N : Int) - 112)] w1 fun e w' => e = .returned (.tuple #[]) ∧ Only [g, gb] w1 w' ∧ ∃ m', Me w' h g gb cap mb N m' ∧ Inv N m' [⟨112, N - 112, 1⟩] (insL (fun _ => []) (cls (N - 112)) 112)) := Lib.hid fun w1 h mb M => by
    rw [show ((N : Int) - 112) = ((N - 112 : Nat) : Int) by omega]
    refine (put_any M (inv_new hN) rfl).mono ?_
    rintro e w2 ⟨rfl, o2, m2, M2, i2, _⟩
    exact ⟨rfl, o2, m2, M2, i2⟩
  have SZ2 : Hid (∀ w1 h mb, Me w1 h g gb cap mb N (fun _ => 0) → Calls Tryd.prog 42 #[.pointer (some ⟨g, 0, none⟩)] w1 fun e w' => e = .returned (.int .i64 N) ∧ w1 = w') := Lib.hid fun w1 h mb M => len_any M
  have hmm : ∀ W : World, (Instr.makeMap 74 none).run Tryd.prog W = .ok (.map (some W.heap.size)) (W.alloc (.map #[] 0)) := fun W => by
    simp [Instr.makeMap, run_underlying Tryd.underlying74, go_sem]
  have HA := Lib.hid hA
  have hgl := hA.hdr.lt
  have hgbl := hA.lt
  clear hA hm
  have B1 := (Blk.new (w.alloc (.map #[] 0)) 76 #[.pointer (some ⟨g, 0, none⟩), .map (some w.heap.size)]).alloc (.cells (U8s (List.replicate N 0)).toArray 5)
  have P1 := (Pc.nil (Mp.made Tryd.prog 3 w)).only ((((Only.refl [] (w.alloc (.map #[] 0))).alloc (.cells #[.pointer (some ⟨g, 0, none⟩), .map (some w.heap.size)] 76)).alloc (.cells (U8s (List.replicate N 0)).toArray 5))) (by simp)
  have O1 : Only [] w _ := (((Only.refl [] w).alloc (.map #[] 0)).alloc (.cells #[.pointer (some ⟨g, 0, none⟩), .map (some w.heap.size)] 76)).alloc (.cells (U8s (List.replicate N 0)).toArray 5)
  simp only [World.size_alloc] at B1
  go_enter Tryd.func14, Tryd.ntmps14
  go_wp2_with (first
    | (go_at_call 42; (with_reducible refine (SZ.out _ (by first | exact Only.refl _ _ | exact (((Only.refl [] w).alloc _).alloc _))).mono ?_); rintro e w1 ⟨rfl, rfl⟩)
    | (go_at_call 43; (with_reducible refine (WR.out _ _ (((Only.refl [] w).alloc _).alloc _) (by simp)).mono ?_); rintro e w2 ⟨rfl, o2, A2⟩; have M2 : Me w2 (w.heap.size + 1) g gb cap w.heap.size N (fun _ => 0) := ⟨B1.only o2 (by simp; omega), _, 0, A2, hl, wd_zero N⟩)
    | (go_at_call 44; (with_reducible refine (SET.out _ _ _ M2).mono ?_); rintro e w3 ⟨rfl, o3, M3⟩)
    | (go_at_call 42; (with_reducible refine (SZ2.out _ _ _ M3).mono ?_); rintro e w1 ⟨rfl, rfl⟩)
    | (go_at_call 45; (with_reducible refine (PUT.out _ _ _ M3).mono ?_); rintro e w4 ⟨rfl, o4, m4, M4, I4⟩)
    | (rw [hmm]; simp only [Result.andThen]))
  go_ret2
  refine ⟨w.heap.size + 1, w.heap.size, m4, by simp, (((O1.mono (by simp)).trans o2 (by simp)).trans o3 (by simp)).trans o4 (by simp), ⟨M4, I4, fun b hb => ?_, [], ((P1.only o2 (by simp; omega)).only o3 (by simp; omega)).only o4 (by simp; omega), ?_⟩, by omega, Nat.le_refl _⟩
  · rw [show b = ⟨112, N - 112, 1⟩ by simpa using hb]; simp
  · rw [used_cons, if_neg (by simp)]
    exact List.Perm.nil
end
end Go.Proofs.YthlaoanfoimkfaaDoor
