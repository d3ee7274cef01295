/- Tlsf: Check. Condition: a heap in memory. -/
import Derived.Test.YthlaoanfoimkfaaDoorTkA
import Derived.Stop.RegionWithIn
namespace Go.Proofs.YthlaoanfoimkfaaDoor
open Go.RowKit Go.Shelf Go.BigFrame
set_option linter.unusedVariables false
set_option linter.all false
set_option maxRecDepth 100000
attribute [local go_sem] Oper.semAt_some
theorem wide_fn (f : FuncId) : Fence.wide.fn f = True := rfl
attribute [local go_sem] wide_fn
attribute [local simp] wide_fn
/-- The frame of Check within a round. -/
def TK (h s bz : Nat) (v : Nat → Value) : Array Value := #[.pointer (some ⟨h, 0, none⟩), .pointer (some ⟨s, 0, none⟩), .pointer (some ⟨s + 1, 0, none⟩), .pointer (some ⟨s + 1 + 1 + 1, 0, none⟩), .pointer (some ⟨s + 1 + 1 + 1 + 1, 0, none⟩), .pointer (some ⟨s + 1 + 1 + 1 + 1 + 1, 0, none⟩), .pointer (some ⟨bz, 0, none⟩), v 7, v 8, v 9, v 10, v 11, v 12, v 13, v 14, v 15, v 16, v 17, v 18, v 19, v 20, v 21, v 22, v 23, v 24, v 25, v 26, v 27, v 28, v 29, v 30, v 31, v 32, v 33, v 34, v 35, v 36, v 37, v 38, v 39, v 40, v 41, v 42, v 43, v 44, v 45, v 46, v 47, v 48, v 49, v 50, v 51, v 52, v 53, v 54, v 55, v 56, v 57, v 58, v 59, v 60, v 61, v 62, v 63, v 64, v 65, v 66, v 67, v 68, v 69, v 70, v 71, v 72, v 73, v 74, v 75, v 76, v 77, v 78, v 79, v 80, v 81, v 82, v 83, v 84, v 85, v 86, v 87, v 88, v 89, v 90, v 91, v 92, v 93, v 94, v 95, v 96, v 97, v 98, v 99, v 100, v 101, v 102, v 103, v 104, v 105, v 106, v 107, v 108, v 109, v 110, v 111, v 112, v 113, v 114, v 115, v 116, v 117, v 118, v 119]
theorem TK_intro {h s bz : Nat} {tm : Array Value} (e : tm = TK h s bz (fun k => tm.getD k undef)) : ∃ v, ({ tmps := tm, defers := [] } : Act) = { tmps := TK h s bz v, defers := [] } := ⟨fun k => tm.getD k undef, by rw [← e]⟩
/-- The builtin len under a name that the walk does not open: its run is met by a fact laid ahead. -/
def LenH (ts : Array TypeId) (ty : TypeId) (vs : Array Value) : Sem Value := Builtin.len_ ts ty vs
theorem len_hide (ts : Array TypeId) (ty : TypeId) (vs : Array Value) : Builtin.len_ ts ty vs = LenH ts ty vs := rfl
attribute [local go_sem ↓] len_hide
theorem shr_bit (x c : Nat) (hx : x < 2 ^ 26) : bits .and .i64 ((x : Int) / 2 ^ c) 1 = if x.testBit c then 1 else 0 := by
  have h1 : (x : Int) / 2 ^ c = ((x / 2 ^ c : Nat) : Int) := by push_cast; rfl
  have h2 : x / 2 ^ c ≤ x := Nat.div_le_self _ _
  rw [h1, show (1 : Int) = ((1 : Nat) : Int) from rfl, i64_and _ _ (by omega) (by omega), Nat.and_one_is_mod, Nat.testBit_eq_decide_div_mod_eq]
  by_cases e : x / 2 ^ c % 2 = 1
  · simp [e]
  · have : x / 2 ^ c % 2 = 0 := by omega
    simp [this]
/-- The map of the free blocks: those of the classes from one on are in it, but some. -/
structure Ck (B : List Bk) (h g gb cap mb N s : Nat) (m : Nat → Nat) (V1 : World) (cc : Nat) (P : List Nat) (W : World) : Prop where
  only : Only [g, s + 1 + 1] V1 W
  me : Me W h g gb cap mb N m
  ex : ∃ F, Fm (kap B) W (s + 1 + 1) F ∧ ∀ a, a ∈ F ↔ (∃ b ∈ B, b.at' = a ∧ b.k = 1 ∧ cc ≤ cls b.size) ∧ a ∉ P
section
variable {B : List Bk} {L : Nat → List Nat} {h g gb cap mb N s cc a : Nat} {m : Nat → Nat} {V1 W W' : World} {P pre rest : List Nat}
theorem Ck.next (C : Ck B h g gb cap mb N s m V1 cc P W) (hI : Inv N m B L) (hL : L cc = P) : Ck B h g gb cap mb N s m V1 (cc + 1) [] W := by
  obtain ⟨F, hF, hi⟩ := C.ex
  refine ⟨C.only, C.me, F, hF, fun a => (hi a).trans ⟨fun ⟨⟨b, hb, e1, e2, e3⟩, hn⟩ => ⟨⟨b, hb, e1, e2, ?_⟩, by simp⟩, fun ⟨⟨b, hb, e1, e2, e3⟩, _⟩ => ⟨⟨b, hb, e1, e2, by omega⟩, fun hm => ?_⟩⟩⟩
  · have : cls b.size ≠ cc := fun e => hn (by rw [← hL]; exact (hI.mem cc a).2 ⟨b, hb, e1, e2, e⟩)
    omega
  · rw [← hL] at hm
    obtain ⟨b2, hb2, f1, f2, f3⟩ := (hI.mem cc a).1 hm
    have := hI.tile.inj hb hb2 (by omega)
    rw [this] at e3
    omega
theorem Ck.has (hI : Inv N m B L) (hL : L cc = pre ++ a :: rest) : ∃ b ∈ B, b.at' = a ∧ b.k = 1 ∧ cls b.size = cc := (hI.mem cc a).1 (by rw [hL]; simp)
theorem Ck.fresh (hI : Inv N m B L) (hL : L cc = pre ++ a :: rest) : a ∉ pre := fun hm => by
  have := hI.nodup cc
  rw [hL, List.nodup_append] at this
  exact this.2.2 a hm a (by simp) rfl
theorem Ck.look (C : Ck B h g gb cap mb N s m V1 cc pre W) (hI : Inv N m B L) (hL : L cc = pre ++ a :: rest) : (Instr.lookup 91 (.map (some (s + 1 + 1))) (.int .i64 (a : Int)) true).run Tryd.prog W = .ok (.tuple #[.int .i64 (cc : Nat), .bool true]) W := by
  obtain ⟨F, hF, hi⟩ := C.ex
  obtain ⟨b, hb, e1, e2, e3⟩ := Ck.has hI hL
  have hs := hI.size
  have ht := Tile.mem hI.tile b hb
  have := hF.look ((hi a).2 ⟨⟨b, hb, e1, e2, by omega⟩, Ck.fresh hI hL⟩) (by omega)
  rw [← e1, kap_at hI.tile hb, e3] at this
  rw [← e1]
  exact this
theorem Ck.del (C : Ck B h g gb cap mb N s m V1 cc pre W) (hI : Inv N m B L) (hL : L cc = pre ++ a :: rest) (o : Only [g] W W') (M : Me W' h g gb cap mb N m) (hg : g < s) (hh : h < s) (hgb : gb < s) :
    ∃ w7, (Builtin.delete_ #[91, 3] 0 #[.map (some (s + 1 + 1)), .int .i64 (a : Int)]).run Tryd.prog W' = .ok (.tuple #[]) w7 ∧ Ck B h g gb cap mb N s m V1 cc (pre ++ [a]) w7 := by
  obtain ⟨F, hF, hi⟩ := C.ex
  obtain ⟨b, hb, e1, e2, e3⟩ := Ck.has hI hL
  have hs := hI.size
  have ht := Tile.mem hI.tile b hb
  have hm := (hi a).2 ⟨⟨b, hb, e1, e2, by omega⟩, Ck.fresh hI hL⟩
  obtain ⟨w7, e7, F7, o7⟩ := (hF.only o (by simp; omega)).del (ty := 0) hm (by omega)
  refine ⟨w7, e7, (C.only.trans o (by simp)).trans o7 (by simp), M.only o7 (by simp; omega) (by simp; omega) (by simp; omega), _, F7, fun x => ?_⟩
  rw [hF.2.mem_erase_iff, hi x]
  simp only [List.mem_append, List.mem_singleton, not_or]
  exact ⟨fun ⟨q1, q2, q3⟩ => ⟨q2, q3, q1⟩, fun ⟨q1, q2, q3⟩ => ⟨q3, q1, q2⟩⟩
theorem Ck.read (C : Ck B h g gb cap mb N s m V1 cc P W) (o : Only [g] W W') (M : Me W' h g gb cap mb N m) (hg : g < s := by omega) : Ck B h g gb cap mb N s m V1 cc P W' := by
  obtain ⟨F, hF, hi⟩ := C.ex
  exact ⟨C.only.trans o (by simp), M, F, hF.only o (by simp; omega), hi⟩
end
theorem lastD_snoc : ∀ (l : List Nat) (p a : Nat), lastD (l ++ [a]) p = a
  | [], _, _ => rfl
  | b :: l, _, a => lastD_snoc l b a
theorem idx_less {pre rest : List Nat} {a : Nat} (hn : (pre ++ a :: rest).Nodup) (h0 : 0 ∉ pre ++ a :: rest) : (pre ++ a :: rest).length - (pre ++ a :: rest).idxOf (rest.headD 0) < (pre ++ a :: rest).length - (pre ++ a :: rest).idxOf a := by
  have hap : a ∉ pre := fun hm => by
    rw [List.nodup_append] at hn
    exact hn.2.2 a hm a (by simp) rfl
  have e1 : (pre ++ a :: rest).idxOf a = pre.length := by
    rw [List.idxOf_append, if_neg hap]; simp
  have hlen : (pre ++ a :: rest).length = pre.length + rest.length + 1 := by simp; omega
  have e2 : pre.length < (pre ++ a :: rest).idxOf (rest.headD 0) := by
    cases rest with
    | nil =>
      rw [show ([] : List Nat).headD 0 = 0 from rfl, List.idxOf_eq_length h0]
      omega
    | cons b q =>
      rw [List.nodup_append] at hn
      obtain ⟨n1, n2, n3⟩ := hn
      have hb : b ∉ pre := fun hm => n3 b hm b (by simp) rfl
      have hab : a ≠ b := fun e => by rw [e] at n2; simp at n2
      have hab2 : (a == b) = false := by simp [hab]
      rw [show (b :: q).headD 0 = b from rfl, List.idxOf_append, if_neg hb, List.idxOf_cons, hab2]
      simp
  omega
section
variable {w w' : World} {h g gb cap mb N bx : Nat} {m : Nat → Nat} {B : List Bk} {L : Nat → List Nat} {X Y Z : World}
set_option maxHeartbeats 8000000 in
theorem check_any (H : Hp w h g gb cap mb N B L m) : Calls Tryd.prog 21 #[.pointer (some ⟨h, 0, none⟩)] w fun e w' => e = .returned (.bool true) ∧ Only [g] w w' ∧ Hp w' h g gb cap mb N B L m := by
  have HH := Lib.hid H
  have hlt := H.lt
  have hmm : ∀ W : World, (Instr.makeMap 91 none).run Tryd.prog W = .ok (.map (some W.heap.size)) (W.alloc (.map #[] 0)) := fun W => by
    simp [Instr.makeMap, run_underlying Tryd.underlying91, go_sem]
  clear H
  refine (callsIn_wide (n := 8)).1 ?_
  refine callsIn_of_wp_marks Tryd.func21 rfl trivial ?_ rfl
  simp only [Tryd.ntmps21, List.size_toArray, List.length_cons, List.length_nil, Nat.reduceAdd, Nat.reduceSub, Array.replicate_succ, Array.replicate_zero, List.push_toArray, List.append_toArray, List.nil_append, List.cons_append]
  refine wpIn_wide.2 ?_
  go_wp2_with (first
    | (go_at_call 56; refine (there_any (HH.out.me.only0 (((Only.refl [] w).alloc _).alloc _))).mono ?_; rintro e w1 ⟨rfl, rfl⟩)
    | (rw [hmm]; simp only [Result.andThen])
    | (go_at_call 53; refine (all_any h _).mono ?_; rintro e w1 ⟨rfl, o1, b1, hs1⟩))
  clear hmm
  rename_i Kc hKc
  have O1 := o1
  obtain ⟨s, hs⟩ : ∃ s, w.heap.size = s := ⟨_, rfl⟩
  have D0 := Blk.new w 23 #[.pointer (some ⟨h, 0, none⟩)]
  have D1 := Blk.new (w.alloc (.cells #[.pointer (some ⟨h, 0, none⟩)] 23)) 4 #[.bool false]
  have D2 := Fm.nil (κ := kap B) (Mp.made Tryd.prog 3 ((w.alloc (.cells #[.pointer (some ⟨h, 0, none⟩)] 23)).alloc (.cells #[.bool false] 4)))
  have M1 := HH.out.me.only0 (((((((Only.refl [] w).alloc (.cells #[.pointer (some ⟨h, 0, none⟩)] 23)).alloc (.cells #[.bool false] 4)).alloc (.map #[] 0)).alloc (.cells #[.map (some (w.heap.size + 1 + 1))] 91)).alloc (.cells #[.int .i64 0] 3)).alloc (.cells #[.int .i64 112] 3) |>.trans0 o1)
  have O0 := ((((((Only.refl [] w).alloc (.cells #[.pointer (some ⟨h, 0, none⟩)] 23)).alloc (.cells #[.bool false] 4)).alloc (.map #[] 0)).alloc (.cells #[.map (some (w.heap.size + 1 + 1))] 91)).alloc (.cells #[.int .i64 0] 3)).alloc (.cells #[.int .i64 112] 3) |>.trans0 o1
  have D0 := (((((D0.alloc (.cells #[.bool false] 4)).alloc (.map #[] 0)).alloc (.cells #[.map (some (w.heap.size + 1 + 1))] 91)).alloc (.cells #[.int .i64 0] 3)).alloc (.cells #[.int .i64 112] 3)).only o1 (by simp)
  have D1 := ((((D1.alloc (.map #[] 0)).alloc (.cells #[.map (some (w.heap.size + 1 + 1))] 91)).alloc (.cells #[.int .i64 0] 3)).alloc (.cells #[.int .i64 112] 3)).only o1 (by simp)
  have D2 := (D2.only ((((Only.refl [] _).alloc (.cells #[.map (some (w.heap.size + 1 + 1))] 91)).alloc (.cells #[.int .i64 0] 3)).alloc (.cells #[.int .i64 112] 3)) (by simp)).only o1 (by simp)
  have D3 := (((Blk.new (((w.alloc (.cells #[.pointer (some ⟨h, 0, none⟩)] 23)).alloc (.cells #[.bool false] 4)).alloc (.map #[] 0)) 91 #[.map (some (w.heap.size + 1 + 1))]).alloc (.cells #[.int .i64 0] 3)).alloc (.cells #[.int .i64 112] 3)).only o1 (by simp)
  have D4 := ((Blk.new ((((w.alloc (.cells #[.pointer (some ⟨h, 0, none⟩)] 23)).alloc (.cells #[.bool false] 4)).alloc (.map #[] 0)).alloc (.cells #[.map (some (w.heap.size + 1 + 1))] 91)) 3 #[.int .i64 0]).alloc (.cells #[.int .i64 112] 3)).only o1 (by simp)
  have D5 := (Blk.new (((((w.alloc (.cells #[.pointer (some ⟨h, 0, none⟩)] 23)).alloc (.cells #[.bool false] 4)).alloc (.map #[] 0)).alloc (.cells #[.map (some (w.heap.size + 1 + 1))] 91)).alloc (.cells #[.int .i64 0] 3)) 3 #[.int .i64 112]).only o1 (by simp)
  simp only [World.size_alloc, hs] at D0 D1 D2 D3 D4 D5 b1 hs1 M1 O0
  rw [hs] at hlt
  simp only [hs, World.size_alloc]
  have ST := all_stops (w := w1) 7 (by decide) HH.out.inv HH.out.all M1 b1
  clear o1 O1
  refine (wpIn_wide (n := 8)).1 ?_
  refine' wpIn_range_t (n := 8) (by decide) (gf := 79) (lb := #[.pointer (some ⟨s + 1 + 1 + 1 + 1 + 1 + 1, 0, none⟩)]) rfl (enters_of Tryd.func79 (by kernel_rfl) rfl)
    (g := g) (by omega) (fun A B h => h.1) ST (fun h k => h.trans k) (fun W l o o' hl h hc hw => KK.putObj W l o' (by omega) (by omega)) (fun _ => rfl)
    (fun pre W => pre <+: B ∧ Only [g, s + 1 + 1, s + 1 + 1 + 1 + 1, s + 1 + 1 + 1 + 1 + 1] w1 W ∧ Me W h g gb cap mb N m ∧ Blk W s 23 #[.pointer (some ⟨h, 0, none⟩)] ∧ Blk W (s + 1 + 1 + 1) 91 #[.map (some (s + 1 + 1))] ∧ Blk W (s + 1 + 1 + 1 + 1) 3 #[.int .i64 (avL pre)] ∧ Blk W (s + 1 + 1 + 1 + 1 + 1) 3 #[.int .i64 (evL pre)] ∧ Fm (kap B) W (s + 1 + 1) (fr pre))
    (fun c pre W => False)
    (fun q0 A B row hq hg hr => by
      obtain ⟨h0, h1, h2, h3, h4, h5, h6, h7⟩ := hq
      have hA := h1.size
      have hx : ∀ q, row = some q → q ∈ [g, s + 1 + 1, s + 1 + 1 + 1 + 1, s + 1 + 1 + 1 + 1 + 1] ∨ w1.heap.size ≤ q := fun q e => .inr (by have := (hr q e).1; omega)
      have o2 : Only (row.toList) A B := (Only.refl _ A).grown hg (fun q e => .inl (by simp [e]))
      have hn : ∀ q, row = some q → w1.heap.size ≤ q := fun q e => (hr q e).1
      refine ⟨h0, h1.grown hg hx, h2.only o2 ?_ ?_ ?_, h3.only o2 ?_, h4.only o2 ?_, h5.only o2 ?_, h6.only o2 ?_, h7.only o2 ?_⟩
      all_goals (cases row with | none => simp | some q => (simp; have := hn q rfl; omega)))
    (fun c s A B row hs hg hr => hs.elim)
    (fun pre A B hq ht => by
      obtain ⟨h0, h1, h2, h3, h4, h5, h6, h7⟩ := hq
      exact ⟨h0, h1.trans ht.1 (by simp), ht.2 h2, h3.only ht.1 (by simp; omega), h4.only ht.1 (by simp; omega), h5.only ht.1 (by simp; omega), h6.only ht.1 (by simp; omega), h7.only ht.1 (by simp; omega)⟩)
    ⟨List.nil_prefix, Only.refl _ _, M1, D0, D3, D4, D5, D2⟩
    (fun x a' W => ∃ bz, a' = { tmps := #[.pointer (some ⟨h, 0, none⟩), .pointer (some ⟨s, 0, none⟩), .pointer (some ⟨s + 1, 0, none⟩), .pointer (some ⟨s + 1 + 1 + 1, 0, none⟩), .pointer (some ⟨s + 1 + 1 + 1 + 1, 0, none⟩), .pointer (some ⟨s + 1 + 1 + 1 + 1 + 1, 0, none⟩), .pointer (some ⟨bz, 0, none⟩), undef, undef, undef, undef, undef, undef, undef, .pointer (some ⟨h, 0, none⟩), .bool true, .bool false, .map (some (s + 1 + 1)), .pointer (some ⟨h, 0, none⟩), .func (.func 79) #[] #[.pointer (some ⟨s + 1 + 1 + 1 + 1 + 1 + 1, 0, none⟩)], .agg #[.int .i64 x.at', .int .i64 x.size, .bool (x.k == 1)], undef, undef, undef, undef, undef, undef, undef, undef, undef, undef, undef, undef, undef, undef, undef, undef, undef, undef, undef, undef, undef, undef, undef, undef, undef, undef, undef, undef, undef, undef, undef, undef, undef, undef, undef, undef, undef, undef, undef, undef, undef, undef, undef, undef, undef, undef, undef, undef, undef, undef, undef, undef, undef, undef, undef, undef, undef, undef, undef, undef, undef, undef, undef, undef, undef, undef, undef, undef, undef, undef, undef, undef, undef, undef, undef, undef, undef, undef, undef, undef, undef, undef, undef, undef, undef, undef, undef, undef, undef, undef, undef, undef, undef, undef, undef, undef, undef, undef, undef], defers := [] } ∧
      Blk W bz 42 #[.int .i64 x.at', .int .i64 x.size, .bool (x.k == 1)] ∧ s + 1 + 1 + 1 + 1 + 1 + 1 + 1 ≤ bz)
    (fun x a' s A B row hs hg hr => by obtain ⟨bz, hv, hz, hzl⟩ := hs; exact ⟨bz, hv, blk_turn hz hg (fun r e => (hr r e).2), hzl⟩) ?assign ?body ?done ?stop
  case assign =>
    rintro l pre x W K ⟨h0, h1, h2, h3, h4, h5, h6, h7⟩ hK
    unfold encB
    gi_wp2
    have oo := (Only.refl [] W).alloc (.cells #[.int .i64 x.at', .int .i64 x.size, .bool (x.k == 1)] 42)
    have hW := h1.size
    exact hK _ _ (kf_only0 oo) (KK.only oo (by simp) (by omega) (by simp)) ⟨h0, h1.trans0 oo, h2.only0 oo, h3.only oo (by simp), h4.only oo (by simp), h5.only oo (by simp), h6.only oo (by simp), h7.only oo (by simp)⟩ ⟨W.heap.size, rfl, Blk.new W 42 _, by omega⟩
  case body =>
    rintro l pre x a' W hl0 ⟨r0, hr0⟩ ⟨h0, h1, h2, h3, h4, h5, h6, h7⟩ ⟨bz, rfl, hz, hzl⟩ hlen
    obtain ⟨C, eB⟩ : ∃ C, B = pre ++ x :: C := by obtain ⟨C, e⟩ := hlen; exact ⟨C, by rw [← e]; simp⟩
    have haw : m (x.at' + 4) = avL pre := by
      have i := HH.out.inv
      have a := HH.out.all
      rw [eB] at i a
      exact ahead_word i a
    have hxB : x ∈ B := by rw [eB]; simp
    have hnf : x.at' ∉ fr pre := by
      have t := HH.out.inv.tile
      rw [eB] at t
      exact notin_fr t
    have hkx : kap B x.at' = cls x.size := kap_at HH.out.inv.tile hxB
    have hxm := Tile.mem HH.out.inv.tile x hxB
    have hNs := HH.out.inv.size
    have hne := HH.out.ne
    have hW := h1.size
    have oW : Only [g, s + 1 + 1, s + 1 + 1 + 1 + 1, s + 1 + 1 + 1 + 1 + 1] w W := (O0.mono (by simp)).trans h1 (by simp)
    obtain ⟨U, hP, hU⟩ := HH.out.pc
    obtain ⟨Z, hZ⟩ : ∃ Z : { W' : World // Me W' h g gb cap mb N m }, Z.1 = W.drew := ⟨⟨W.drew, h2.only0 ((Only.refl [] W).drew)⟩, rfl⟩
    have hlk : ∀ q : Rd g (fun W' => Me W' h g gb cap mb N m) Z, (Instr.lookup 74 (.map (some mb)) (.int .i64 ((x.at' : Int) + 8)) false).run Tryd.prog q.val = .ok (.bool (!(x.k == 1))) q.val := fun q => by
      have P1 := hP.only ((oW.drew).trans (hZ ▸ q.ok) (by simp)) (by simp; omega)
      by_cases hk : x.k = 1
      · rw [show (!(x.k == 1)) = false by simp [hk]]
        refine P1.lookOut (fun y hy e => ?_) (by omega)
        obtain ⟨b, hb, hb0, eb⟩ := mem_used.1 (hU.mem_iff.1 hy)
        have e2 := HH.out.inv.tile.inj hxB hb (by omega)
        rw [← e2] at hb0
        omega
      · have hk0 : x.k = 0 := by
          have := HH.out.inv.kind x hxB
          have := HH.out.all x hxB
          omega
        rw [show (!(x.k == 1)) = true by simp [hk]]
        have := P1.lookIn (hU.mem_iff.2 (mem_used.2 ⟨x, hxB, hk0, rfl⟩)) (by omega)
        rw [show (((x.at' + 8 : Nat)) : Int) = (x.at' : Int) + 8 by omega] at this
        exact this
    have hget : ∀ q : Rd g (fun W' => Me W' h g gb cap mb N m) Z, Calls Tryd.prog 57 #[.pointer (some ⟨h, 0, none⟩), .int .i64 ((x.at' : Int) + 4)] q.val fun e w' => e = .returned (.int .i64 (avL pre : Nat)) ∧ Only [g] q.val w' ∧ Me w' h g gb cap mb N m := fun q => by
      have := get_any q.me (p := x.at' + 4) (by omega) (by omega)
      rw [haw, show (((x.at' + 4 : Nat)) : Int) = (x.at' : Int) + 4 by omega] at this
      exact this
    have g0 : ∀ q : Rd g (fun W' => Me W' h g gb cap mb N m) Z, q.val.cell? ⟨s, 0, none⟩ = some (.pointer (some ⟨h, 0, none⟩)) := fun q => by simpa using ((h3.drew).only (hZ ▸ q.ok) (by simp; omega)).cell 0
    have g4 : ∀ q : Rd g (fun W' => Me W' h g gb cap mb N m) Z, q.val.cell? ⟨s + 1 + 1 + 1 + 1, 0, none⟩ = some (.int .i64 (avL pre : Nat)) := fun q => by simpa using ((h5.drew).only (hZ ▸ q.ok) (by simp; omega)).cell 0
    have gh : ∀ q : Rd g (fun W' => Me W' h g gb cap mb N m) Z, q.val.cell? ⟨h, 1, none⟩ = some (.map (some mb)) := fun q => by simpa using q.me.hdr.cell 1
    have hzg : bz ≠ g := by omega
    have hz4 : bz ≠ s + 1 + 1 + 1 + 1 := by omega
    have hz5 : bz ≠ s + 1 + 1 + 1 + 1 + 1 := by omega
    have gz0 : ∀ q : Rd g (fun W' => Me W' h g gb cap mb N m) Z, q.val.cell? ⟨bz, 0, none⟩ = some (.int .i64 x.at') := fun q => by simpa using ((hz.drew).only (hZ ▸ q.ok) (by simp; omega)).cell 0
    have gz2 : ∀ q : Rd g (fun W' => Me W' h g gb cap mb N m) Z, q.val.cell? ⟨bz, 2, none⟩ = some (.bool (x.k == 1)) := fun q => by simpa using ((hz.drew).only (hZ ▸ q.ok) (by simp; omega)).cell 2
    have HGET := Lib.hid hget
    have H0 := Lib.hid h0
    have H1 := Lib.hid h1
    have H3 := Lib.hid h3
    have H4 := Lib.hid h4
    have H5 := Lib.hid h5
    have H6 := Lib.hid h6
    have H7 := Lib.hid h7
    have HZ := Lib.hid hz
    have HX := Lib.hid hxB
    have HKX := Lib.hid hkx
    have HNF := Lib.hid hnf
    clear hget h0 h1 h3 h4 h5 h6 h7 hz hU hP haw hkx hnf oW eB hxB
    try dsimp only
    gi_wp2
    rename_i K1 hK1 K0 hK0
    have R10 : ∀ (v : Nat → Value) (W2 : World), Only [g] W W2 → Me W2 h g gb cap mb N m → K1 { tmps := TK h s bz v, defers := [] } W2 := by
      intro v W2 o2 M2
      refine hK1 _ _ ?_
      have HO := Lib.hid o2
      have HM := Lib.hid M2
      have bz2 := HZ.out.only o2 (by simp; omega)
      have y2 : W2.cell? ⟨bz, 2, none⟩ = some (.bool (x.k == 1)) := by simpa using bz2.cell 2
      obtain ⟨GQ, hGi, hGe⟩ : ∃ GQ : Exit → Act → World → Prop, (∀ tm w', tm = TK h s bz (fun k => tm.getD k undef) → (Fm (kap B) w' (s + 1 + 1) (fr (pre ++ [x])) ∧ Only [g, s + 1 + 1] W w' ∧ Me w' h g gb cap mb N m) → GQ .normal { tmps := tm, defers := [] } w') ∧
          (∀ e a' w', GQ e a' w' → (e = .normal ∧ (∃ v, a' = { tmps := TK h s bz v, defers := [] }) ∧ Fm (kap B) w' (s + 1 + 1) (fr (pre ++ [x])) ∧ Only [g, s + 1 + 1] W w' ∧ Me w' h g gb cap mb N m)) :=
        ⟨fun e a' w' => (e = .normal ∧ (∃ v, a' = { tmps := TK h s bz v, defers := [] }) ∧ Fm (kap B) w' (s + 1 + 1) (fr (pre ++ [x])) ∧ Only [g, s + 1 + 1] W w' ∧ Me w' h g gb cap mb N m), fun tm w' e q => ⟨rfl, TK_intro e, q⟩, fun e a' w' q => q⟩
      have HGI := Lib.hid hGi
      have HGE := Lib.hid hGe
      clear hGi hGe
      refine wpIn_seq (wpIn_mono (Q := GQ) ?_ ?_)
      · clear hK1
        rename_i Q1
        by_cases hk : x.k = 1
        · have e1 : (x.k == 1) = true := by simp [hk]
          rw [e1] at y2
          have b3 := H4.out.only o2 (by simp; omega)
          have c3 : W2.cell? ⟨s + 1 + 1 + 1, 0, none⟩ = some (.map (some (s + 1 + 1))) := by simpa using b3.cell 0
          have y0 : W2.cell? ⟨bz, 0, none⟩ = some (.int .i64 x.at') := by simpa using bz2.cell 0
          have y1 : W2.cell? ⟨bz, 1, none⟩ = some (.int .i64 x.size) := by simpa using bz2.cell 1
          obtain ⟨w3, ep, F3, o3⟩ := ((H7.out.only o2 (by simp; omega)).only ((Only.refl [] W2).drew) (by simp)).put HNF.out (by omega)
          rw [HKX.out] at ep
          have HF3 := Lib.hid F3
          have HO3 := Lib.hid (((Only.refl [s + 1 + 1] W2).drew).trans o3 (by simp))
          have HP : Hid (Fm (kap B) w3 (s + 1 + 1) (fr (pre ++ [x])) ∧ Only [g, s + 1 + 1] W w3 ∧ Me w3 h g gb cap mb N m) := Lib.hid ⟨by rw [fr_snoc, if_pos hk]; exact HF3.out, (HO.out.mono (T := [g, s + 1 + 1]) (by simp)).trans HO3.out (by simp), HM.out.only HO3.out (by simp; omega) (by simp; omega) (by simp; omega)⟩
          clear o2 M2 F3 o3 b3 bz2
          unfold TK
          gi_wp2
          gi_region_with (first | (gi_at_call 58; refine (CallsIn.inRound l (callsIn_wide.2 (class_any _ (by omega) (by omega)))).mono ?_; rintro e w' ⟨rfl, rfl⟩))
          all_goals exact HGI.out _ _ rfl HP.out
        · have e1 : (x.k == 1) = false := by simp [hk]
          rw [e1] at y2
          have HP : Hid (Fm (kap B) W2 (s + 1 + 1) (fr (pre ++ [x])) ∧ Only [g, s + 1 + 1] W W2 ∧ Me W2 h g gb cap mb N m) := Lib.hid ⟨by rw [fr_snoc, if_neg hk]; exact H7.out.only HO.out (by simp; omega), HO.out.mono (T := [g, s + 1 + 1]) (by simp), HM.out⟩
          clear o2 M2 bz2
          unfold TK
          gi_wp2
          exact HGI.out _ _ rfl HP.out
      intro e3 a3 w3 hq3
      obtain ⟨rfl, ⟨v, rfl⟩, F3, o3, M3⟩ := HGE.out _ _ _ hq3
      clear hq3 HGI HGE
      clear hK1 y2 bz2 HO HM o2 M2
      have bz3 := HZ.out.only o3 (by simp; omega)
      have k4 := H5.out.only o3 (by simp; omega)
      have k5 := H6.out.only o3 (by simp; omega)
      have HF3 := Lib.hid F3
      have HO3 := Lib.hid o3
      have HM3 := Lib.hid M3
      have K4 := Lib.hid k4
      have K5 := Lib.hid k5
      have BZ3 := Lib.hid bz3
      obtain ⟨Wa, ha⟩ : ∃ Wa, w3.drew = Wa := ⟨_, rfl⟩
      obtain ⟨Wb, hb⟩ : ∃ Wb, Wa.setCell ⟨s + 1 + 1 + 1 + 1, 0, none⟩ (.int .i64 x.size) = Wb := ⟨_, rfl⟩
      obtain ⟨Wc, hc⟩ : ∃ Wc, Wb.setCell ⟨s + 1 + 1 + 1 + 1 + 1, 0, none⟩ (.int .i64 ((x.at' : Int) + x.size)) = Wc := ⟨_, rfl⟩
      have oa : Only [] w3 Wa := ha ▸ (Only.refl [] w3).drew
      have ob : Only [s + 1 + 1 + 1 + 1] Wa Wb := hb ▸ (Only.refl [s + 1 + 1 + 1 + 1] Wa).setCell (p := ⟨s + 1 + 1 + 1 + 1, 0, none⟩) (.inl (by simp)) (.int .i64 x.size)
      have oc : Only [s + 1 + 1 + 1 + 1 + 1] Wb Wc := hc ▸ (Only.refl [s + 1 + 1 + 1 + 1 + 1] Wb).setCell (p := ⟨s + 1 + 1 + 1 + 1 + 1, 0, none⟩) (.inl (by simp)) (.int .i64 ((x.at' : Int) + x.size))
      have ka := k4.only oa (by simp)
      have kb : Blk Wb (s + 1 + 1 + 1 + 1) 3 #[.int .i64 x.size] := by
        have := ka.set_ 0 (.int .i64 x.size)
        rw [hb] at this
        simpa using this
      have k5b := (k5.only oa (by simp)).only ob (by simp)
      have kc : Blk Wc (s + 1 + 1 + 1 + 1 + 1) 3 #[.int .i64 ((x.at' : Int) + x.size)] := by
        have := k5b.set_ 0 (.int .i64 ((x.at' : Int) + x.size))
        rw [hc] at this
        simpa using this
      have za := bz3.only oa (by simp)
      have zb := za.only ob (by simp; omega)
      have fa := ka.frozen 0
      have fb := k5b.frozen 0
      have ua0 : Wa.cell? ⟨bz, 0, none⟩ = some (.int .i64 x.at') := by simpa using za.cell 0
      have ua1 : Wa.cell? ⟨bz, 1, none⟩ = some (.int .i64 x.size) := by simpa using za.cell 1
      have ub0 : Wb.cell? ⟨bz, 0, none⟩ = some (.int .i64 x.at') := by simpa using zb.cell 0
      have ub1 : Wb.cell? ⟨bz, 1, none⟩ = some (.int .i64 x.size) := by simpa using zb.cell 1
      have va : Wa.cell? ⟨s + 1 + 1 + 1 + 1, 0, none⟩ = some (.int .i64 (avL pre : Nat)) := by simpa using ka.cell 0
      have vb : Wb.cell? ⟨s + 1 + 1 + 1 + 1 + 1, 0, none⟩ = some (.int .i64 (evL pre : Nat)) := by simpa using k5b.cell 0
      have KB := Lib.hid (kb.only oc (by simp))
      have KC := Lib.hid kc
      have OO := Lib.hid (((oa.mono (T := [s + 1 + 1 + 1 + 1, s + 1 + 1 + 1 + 1 + 1]) (by simp)).trans ob (by simp)).trans oc (by simp))
      clear F3 o3 M3 bz3 k4 k5 oa ob oc ka kb k5b kc za zb
      refine wpIn_mono (Q := fun e a' w' => e = .normal ∧ w' = Wc) ?_ ?_
      · unfold TK
        refine wpIn_region_any (by kernel_rfl) ?_
        try (change wpAnyIn _ _ _ _ _ _ _ _ _ (World.drew _))
        rw [ha]
        refine any_gate fun G hG hG2 => ?_
        have G0 : G 0 #[true, true, true, true, true, true, true, true, true] { tmps := #[.pointer (some ⟨h, 0, none⟩), .pointer (some ⟨s, 0, none⟩), .pointer (some ⟨s + 1, 0, none⟩), .pointer (some ⟨s + 1 + 1 + 1, 0, none⟩), .pointer (some ⟨s + 1 + 1 + 1 + 1, 0, none⟩), .pointer (some ⟨s + 1 + 1 + 1 + 1 + 1, 0, none⟩), .pointer (some ⟨bz, 0, none⟩), v 7, v 8, v 9, v 10, v 11, v 12, v 13, v 14, v 15, v 16, v 17, v 18, v 19, v 20, v 21, v 22, v 23, v 24, v 25, v 26, v 27, v 28, v 29, v 30, v 31, v 32, v 33, v 34, v 35, v 36, v 37, v 38, v 39, v 40, v 41, v 42, v 43, v 44, v 45, v 46, v 47, v 48, .pointer (some ⟨bz, 1, none⟩), .int .i64 x.size, .pointer (some ⟨bz, 0, none⟩), .int .i64 x.at', .pointer (some ⟨bz, 1, none⟩), .int .i64 x.size, .int .i64 ((x.at' : Int) + x.size), v 56, v 57, v 58, v 59, v 60, v 61, v 62, v 63, v 64, v 65, v 66, v 67, v 68, v 69, v 70, v 71, v 72, v 73, v 74, v 75, v 76, v 77, v 78, v 79, v 80, v 81, v 82, v 83, v 84, v 85, v 86, v 87, v 88, v 89, v 90, v 91, v 92, v 93, v 94, v 95, v 96, v 97, v 98, v 99, v 100, v 101, v 102, v 103, v 104, v 105, v 106, v 107, v 108, v 109, v 110, v 111, v 112, v 113, v 114, v 115, v 116, v 117, v 118, v 119], defers := [] } Wc := hG _ _ _ _ (by
          exact wpAnyIn_done (by kernel_rfl) ⟨rfl, rfl⟩ _)
        have G1 : G 1 #[true, true, true, true, true, true, true, true, false] { tmps := #[.pointer (some ⟨h, 0, none⟩), .pointer (some ⟨s, 0, none⟩), .pointer (some ⟨s + 1, 0, none⟩), .pointer (some ⟨s + 1 + 1 + 1, 0, none⟩), .pointer (some ⟨s + 1 + 1 + 1 + 1, 0, none⟩), .pointer (some ⟨s + 1 + 1 + 1 + 1 + 1, 0, none⟩), .pointer (some ⟨bz, 0, none⟩), v 7, v 8, v 9, v 10, v 11, v 12, v 13, v 14, v 15, v 16, v 17, v 18, v 19, v 20, v 21, v 22, v 23, v 24, v 25, v 26, v 27, v 28, v 29, v 30, v 31, v 32, v 33, v 34, v 35, v 36, v 37, v 38, v 39, v 40, v 41, v 42, v 43, v 44, v 45, v 46, v 47, v 48, .pointer (some ⟨bz, 1, none⟩), .int .i64 x.size, .pointer (some ⟨bz, 0, none⟩), .int .i64 x.at', .pointer (some ⟨bz, 1, none⟩), .int .i64 x.size, .int .i64 ((x.at' : Int) + x.size), v 56, v 57, v 58, v 59, v 60, v 61, v 62, v 63, v 64, v 65, v 66, v 67, v 68, v 69, v 70, v 71, v 72, v 73, v 74, v 75, v 76, v 77, v 78, v 79, v 80, v 81, v 82, v 83, v 84, v 85, v 86, v 87, v 88, v 89, v 90, v 91, v 92, v 93, v 94, v 95, v 96, v 97, v 98, v 99, v 100, v 101, v 102, v 103, v 104, v 105, v 106, v 107, v 108, v 109, v 110, v 111, v 112, v 113, v 114, v 115, v 116, v 117, v 118, v 119], defers := [] } Wb := hG _ _ _ _ (by
          dsimp only
          refine wpAnyIn_ready (rs := [8]) (by kernel_rfl) (List.cons_ne_nil _ _) ?_
          refine allReadyIn_want (i := 8) rfl (by kernel_rfl) (fun K9 hK9 => ?_) ?_
          · simp only [List.getElem_toArray, List.getElem_cons_succ, List.getElem_cons_zero]
            first | gi_big_move | gi_big_op
            exact hK9 _ _ (hG2 _ _ _ _ G0)
          exact AllReadyIn.nil)
        have G2 : G 2 #[true, true, true, true, true, true, true, false, false] { tmps := #[.pointer (some ⟨h, 0, none⟩), .pointer (some ⟨s, 0, none⟩), .pointer (some ⟨s + 1, 0, none⟩), .pointer (some ⟨s + 1 + 1 + 1, 0, none⟩), .pointer (some ⟨s + 1 + 1 + 1 + 1, 0, none⟩), .pointer (some ⟨s + 1 + 1 + 1 + 1 + 1, 0, none⟩), .pointer (some ⟨bz, 0, none⟩), v 7, v 8, v 9, v 10, v 11, v 12, v 13, v 14, v 15, v 16, v 17, v 18, v 19, v 20, v 21, v 22, v 23, v 24, v 25, v 26, v 27, v 28, v 29, v 30, v 31, v 32, v 33, v 34, v 35, v 36, v 37, v 38, v 39, v 40, v 41, v 42, v 43, v 44, v 45, v 46, v 47, v 48, .pointer (some ⟨bz, 1, none⟩), .int .i64 x.size, .pointer (some ⟨bz, 0, none⟩), .int .i64 x.at', .pointer (some ⟨bz, 1, none⟩), .int .i64 x.size, .int .i64 ((x.at' : Int) + x.size), v 56, v 57, v 58, v 59, v 60, v 61, v 62, v 63, v 64, v 65, v 66, v 67, v 68, v 69, v 70, v 71, v 72, v 73, v 74, v 75, v 76, v 77, v 78, v 79, v 80, v 81, v 82, v 83, v 84, v 85, v 86, v 87, v 88, v 89, v 90, v 91, v 92, v 93, v 94, v 95, v 96, v 97, v 98, v 99, v 100, v 101, v 102, v 103, v 104, v 105, v 106, v 107, v 108, v 109, v 110, v 111, v 112, v 113, v 114, v 115, v 116, v 117, v 118, v 119], defers := [] } Wa := hG _ _ _ _ (by
          dsimp only
          refine wpAnyIn_ready (rs := [7]) (by kernel_rfl) (List.cons_ne_nil _ _) ?_
          refine allReadyIn_want (i := 7) rfl (by kernel_rfl) (fun K9 hK9 => ?_) ?_
          · simp only [List.getElem_toArray, List.getElem_cons_succ, List.getElem_cons_zero]
            first | gi_big_move | gi_big_op
            exact hK9 _ _ (hG2 _ _ _ _ G1)
          exact AllReadyIn.nil)
        have G3 : G 2 #[true, true, true, true, true, true, false, true, false] { tmps := #[.pointer (some ⟨h, 0, none⟩), .pointer (some ⟨s, 0, none⟩), .pointer (some ⟨s + 1, 0, none⟩), .pointer (some ⟨s + 1 + 1 + 1, 0, none⟩), .pointer (some ⟨s + 1 + 1 + 1 + 1, 0, none⟩), .pointer (some ⟨s + 1 + 1 + 1 + 1 + 1, 0, none⟩), .pointer (some ⟨bz, 0, none⟩), v 7, v 8, v 9, v 10, v 11, v 12, v 13, v 14, v 15, v 16, v 17, v 18, v 19, v 20, v 21, v 22, v 23, v 24, v 25, v 26, v 27, v 28, v 29, v 30, v 31, v 32, v 33, v 34, v 35, v 36, v 37, v 38, v 39, v 40, v 41, v 42, v 43, v 44, v 45, v 46, v 47, v 48, .pointer (some ⟨bz, 1, none⟩), .int .i64 x.size, .pointer (some ⟨bz, 0, none⟩), .int .i64 x.at', .pointer (some ⟨bz, 1, none⟩), .int .i64 x.size, v 55, v 56, v 57, v 58, v 59, v 60, v 61, v 62, v 63, v 64, v 65, v 66, v 67, v 68, v 69, v 70, v 71, v 72, v 73, v 74, v 75, v 76, v 77, v 78, v 79, v 80, v 81, v 82, v 83, v 84, v 85, v 86, v 87, v 88, v 89, v 90, v 91, v 92, v 93, v 94, v 95, v 96, v 97, v 98, v 99, v 100, v 101, v 102, v 103, v 104, v 105, v 106, v 107, v 108, v 109, v 110, v 111, v 112, v 113, v 114, v 115, v 116, v 117, v 118, v 119], defers := [] } Wb := hG _ _ _ _ (by
          dsimp only
          refine wpAnyIn_ready (rs := [6]) (by kernel_rfl) (List.cons_ne_nil _ _) ?_
          refine allReadyIn_want (i := 6) rfl (by kernel_rfl) (fun K9 hK9 => ?_) ?_
          · simp only [List.getElem_toArray, List.getElem_cons_succ, List.getElem_cons_zero]
            first | gi_big_move | gi_big_op
            exact hK9 _ _ (hG2 _ _ _ _ G1)
          exact AllReadyIn.nil)
        have G4 : G 3 #[true, true, true, true, true, true, false, false, false] { tmps := #[.pointer (some ⟨h, 0, none⟩), .pointer (some ⟨s, 0, none⟩), .pointer (some ⟨s + 1, 0, none⟩), .pointer (some ⟨s + 1 + 1 + 1, 0, none⟩), .pointer (some ⟨s + 1 + 1 + 1 + 1, 0, none⟩), .pointer (some ⟨s + 1 + 1 + 1 + 1 + 1, 0, none⟩), .pointer (some ⟨bz, 0, none⟩), v 7, v 8, v 9, v 10, v 11, v 12, v 13, v 14, v 15, v 16, v 17, v 18, v 19, v 20, v 21, v 22, v 23, v 24, v 25, v 26, v 27, v 28, v 29, v 30, v 31, v 32, v 33, v 34, v 35, v 36, v 37, v 38, v 39, v 40, v 41, v 42, v 43, v 44, v 45, v 46, v 47, v 48, .pointer (some ⟨bz, 1, none⟩), .int .i64 x.size, .pointer (some ⟨bz, 0, none⟩), .int .i64 x.at', .pointer (some ⟨bz, 1, none⟩), .int .i64 x.size, v 55, v 56, v 57, v 58, v 59, v 60, v 61, v 62, v 63, v 64, v 65, v 66, v 67, v 68, v 69, v 70, v 71, v 72, v 73, v 74, v 75, v 76, v 77, v 78, v 79, v 80, v 81, v 82, v 83, v 84, v 85, v 86, v 87, v 88, v 89, v 90, v 91, v 92, v 93, v 94, v 95, v 96, v 97, v 98, v 99, v 100, v 101, v 102, v 103, v 104, v 105, v 106, v 107, v 108, v 109, v 110, v 111, v 112, v 113, v 114, v 115, v 116, v 117, v 118, v 119], defers := [] } Wa := hG _ _ _ _ (by
          dsimp only
          refine wpAnyIn_ready (rs := [6, 7]) (by kernel_rfl) (List.cons_ne_nil _ _) ?_
          refine allReadyIn_want (i := 6) rfl (by kernel_rfl) (fun K9 hK9 => ?_) ?_
          · simp only [List.getElem_toArray, List.getElem_cons_succ, List.getElem_cons_zero]
            first | gi_big_move | gi_big_op
            exact hK9 _ _ (hG2 _ _ _ _ G2)
          refine allReadyIn_want (i := 7) rfl (by kernel_rfl) (fun K9 hK9 => ?_) ?_
          · simp only [List.getElem_toArray, List.getElem_cons_succ, List.getElem_cons_zero]
            first | gi_big_move | gi_big_op
            exact hK9 _ _ (hG2 _ _ _ _ G3)
          exact AllReadyIn.nil)
        have G5 : G 3 #[true, true, true, true, true, false, false, true, false] { tmps := #[.pointer (some ⟨h, 0, none⟩), .pointer (some ⟨s, 0, none⟩), .pointer (some ⟨s + 1, 0, none⟩), .pointer (some ⟨s + 1 + 1 + 1, 0, none⟩), .pointer (some ⟨s + 1 + 1 + 1 + 1, 0, none⟩), .pointer (some ⟨s + 1 + 1 + 1 + 1 + 1, 0, none⟩), .pointer (some ⟨bz, 0, none⟩), v 7, v 8, v 9, v 10, v 11, v 12, v 13, v 14, v 15, v 16, v 17, v 18, v 19, v 20, v 21, v 22, v 23, v 24, v 25, v 26, v 27, v 28, v 29, v 30, v 31, v 32, v 33, v 34, v 35, v 36, v 37, v 38, v 39, v 40, v 41, v 42, v 43, v 44, v 45, v 46, v 47, v 48, .pointer (some ⟨bz, 1, none⟩), .int .i64 x.size, .pointer (some ⟨bz, 0, none⟩), .int .i64 x.at', .pointer (some ⟨bz, 1, none⟩), v 54, v 55, v 56, v 57, v 58, v 59, v 60, v 61, v 62, v 63, v 64, v 65, v 66, v 67, v 68, v 69, v 70, v 71, v 72, v 73, v 74, v 75, v 76, v 77, v 78, v 79, v 80, v 81, v 82, v 83, v 84, v 85, v 86, v 87, v 88, v 89, v 90, v 91, v 92, v 93, v 94, v 95, v 96, v 97, v 98, v 99, v 100, v 101, v 102, v 103, v 104, v 105, v 106, v 107, v 108, v 109, v 110, v 111, v 112, v 113, v 114, v 115, v 116, v 117, v 118, v 119], defers := [] } Wb := hG _ _ _ _ (by
          dsimp only
          refine wpAnyIn_ready (rs := [5]) (by kernel_rfl) (List.cons_ne_nil _ _) ?_
          refine allReadyIn_want (i := 5) rfl (by kernel_rfl) (fun K9 hK9 => ?_) ?_
          · simp only [List.getElem_toArray, List.getElem_cons_succ, List.getElem_cons_zero]
            first | gi_big_move | gi_big_op
            exact hK9 _ _ (hG2 _ _ _ _ G3)
          exact AllReadyIn.nil)
        have G6 : G 3 #[true, true, true, false, true, true, false, true, false] { tmps := #[.pointer (some ⟨h, 0, none⟩), .pointer (some ⟨s, 0, none⟩), .pointer (some ⟨s + 1, 0, none⟩), .pointer (some ⟨s + 1 + 1 + 1, 0, none⟩), .pointer (some ⟨s + 1 + 1 + 1 + 1, 0, none⟩), .pointer (some ⟨s + 1 + 1 + 1 + 1 + 1, 0, none⟩), .pointer (some ⟨bz, 0, none⟩), v 7, v 8, v 9, v 10, v 11, v 12, v 13, v 14, v 15, v 16, v 17, v 18, v 19, v 20, v 21, v 22, v 23, v 24, v 25, v 26, v 27, v 28, v 29, v 30, v 31, v 32, v 33, v 34, v 35, v 36, v 37, v 38, v 39, v 40, v 41, v 42, v 43, v 44, v 45, v 46, v 47, v 48, .pointer (some ⟨bz, 1, none⟩), .int .i64 x.size, .pointer (some ⟨bz, 0, none⟩), v 52, .pointer (some ⟨bz, 1, none⟩), .int .i64 x.size, v 55, v 56, v 57, v 58, v 59, v 60, v 61, v 62, v 63, v 64, v 65, v 66, v 67, v 68, v 69, v 70, v 71, v 72, v 73, v 74, v 75, v 76, v 77, v 78, v 79, v 80, v 81, v 82, v 83, v 84, v 85, v 86, v 87, v 88, v 89, v 90, v 91, v 92, v 93, v 94, v 95, v 96, v 97, v 98, v 99, v 100, v 101, v 102, v 103, v 104, v 105, v 106, v 107, v 108, v 109, v 110, v 111, v 112, v 113, v 114, v 115, v 116, v 117, v 118, v 119], defers := [] } Wb := hG _ _ _ _ (by
          dsimp only
          refine wpAnyIn_ready (rs := [3]) (by kernel_rfl) (List.cons_ne_nil _ _) ?_
          refine allReadyIn_want (i := 3) rfl (by kernel_rfl) (fun K9 hK9 => ?_) ?_
          · simp only [List.getElem_toArray, List.getElem_cons_succ, List.getElem_cons_zero]
            first | gi_big_move | gi_big_op
            exact hK9 _ _ (hG2 _ _ _ _ G3)
          exact AllReadyIn.nil)
        have G7 : G 3 #[true, false, true, true, true, true, true, false, false] { tmps := #[.pointer (some ⟨h, 0, none⟩), .pointer (some ⟨s, 0, none⟩), .pointer (some ⟨s + 1, 0, none⟩), .pointer (some ⟨s + 1 + 1 + 1, 0, none⟩), .pointer (some ⟨s + 1 + 1 + 1 + 1, 0, none⟩), .pointer (some ⟨s + 1 + 1 + 1 + 1 + 1, 0, none⟩), .pointer (some ⟨bz, 0, none⟩), v 7, v 8, v 9, v 10, v 11, v 12, v 13, v 14, v 15, v 16, v 17, v 18, v 19, v 20, v 21, v 22, v 23, v 24, v 25, v 26, v 27, v 28, v 29, v 30, v 31, v 32, v 33, v 34, v 35, v 36, v 37, v 38, v 39, v 40, v 41, v 42, v 43, v 44, v 45, v 46, v 47, v 48, .pointer (some ⟨bz, 1, none⟩), v 50, .pointer (some ⟨bz, 0, none⟩), .int .i64 x.at', .pointer (some ⟨bz, 1, none⟩), .int .i64 x.size, .int .i64 ((x.at' : Int) + x.size), v 56, v 57, v 58, v 59, v 60, v 61, v 62, v 63, v 64, v 65, v 66, v 67, v 68, v 69, v 70, v 71, v 72, v 73, v 74, v 75, v 76, v 77, v 78, v 79, v 80, v 81, v 82, v 83, v 84, v 85, v 86, v 87, v 88, v 89, v 90, v 91, v 92, v 93, v 94, v 95, v 96, v 97, v 98, v 99, v 100, v 101, v 102, v 103, v 104, v 105, v 106, v 107, v 108, v 109, v 110, v 111, v 112, v 113, v 114, v 115, v 116, v 117, v 118, v 119], defers := [] } Wa := hG _ _ _ _ (by
          dsimp only
          refine wpAnyIn_ready (rs := [1]) (by kernel_rfl) (List.cons_ne_nil _ _) ?_
          refine allReadyIn_want (i := 1) rfl (by kernel_rfl) (fun K9 hK9 => ?_) ?_
          · simp only [List.getElem_toArray, List.getElem_cons_succ, List.getElem_cons_zero]
            first | gi_big_move | gi_big_op
            exact hK9 _ _ (hG2 _ _ _ _ G2)
          exact AllReadyIn.nil)
        have G8 : G 4 #[true, true, true, true, true, false, false, false, false] { tmps := #[.pointer (some ⟨h, 0, none⟩), .pointer (some ⟨s, 0, none⟩), .pointer (some ⟨s + 1, 0, none⟩), .pointer (some ⟨s + 1 + 1 + 1, 0, none⟩), .pointer (some ⟨s + 1 + 1 + 1 + 1, 0, none⟩), .pointer (some ⟨s + 1 + 1 + 1 + 1 + 1, 0, none⟩), .pointer (some ⟨bz, 0, none⟩), v 7, v 8, v 9, v 10, v 11, v 12, v 13, v 14, v 15, v 16, v 17, v 18, v 19, v 20, v 21, v 22, v 23, v 24, v 25, v 26, v 27, v 28, v 29, v 30, v 31, v 32, v 33, v 34, v 35, v 36, v 37, v 38, v 39, v 40, v 41, v 42, v 43, v 44, v 45, v 46, v 47, v 48, .pointer (some ⟨bz, 1, none⟩), .int .i64 x.size, .pointer (some ⟨bz, 0, none⟩), .int .i64 x.at', .pointer (some ⟨bz, 1, none⟩), v 54, v 55, v 56, v 57, v 58, v 59, v 60, v 61, v 62, v 63, v 64, v 65, v 66, v 67, v 68, v 69, v 70, v 71, v 72, v 73, v 74, v 75, v 76, v 77, v 78, v 79, v 80, v 81, v 82, v 83, v 84, v 85, v 86, v 87, v 88, v 89, v 90, v 91, v 92, v 93, v 94, v 95, v 96, v 97, v 98, v 99, v 100, v 101, v 102, v 103, v 104, v 105, v 106, v 107, v 108, v 109, v 110, v 111, v 112, v 113, v 114, v 115, v 116, v 117, v 118, v 119], defers := [] } Wa := hG _ _ _ _ (by
          dsimp only
          refine wpAnyIn_ready (rs := [5, 7]) (by kernel_rfl) (List.cons_ne_nil _ _) ?_
          refine allReadyIn_want (i := 5) rfl (by kernel_rfl) (fun K9 hK9 => ?_) ?_
          · simp only [List.getElem_toArray, List.getElem_cons_succ, List.getElem_cons_zero]
            first | gi_big_move | gi_big_op
            exact hK9 _ _ (hG2 _ _ _ _ G4)
          refine allReadyIn_want (i := 7) rfl (by kernel_rfl) (fun K9 hK9 => ?_) ?_
          · simp only [List.getElem_toArray, List.getElem_cons_succ, List.getElem_cons_zero]
            first | gi_big_move | gi_big_op
            exact hK9 _ _ (hG2 _ _ _ _ G5)
          exact AllReadyIn.nil)
        have G9 : G 4 #[true, true, true, true, false, false, false, true, false] { tmps := #[.pointer (some ⟨h, 0, none⟩), .pointer (some ⟨s, 0, none⟩), .pointer (some ⟨s + 1, 0, none⟩), .pointer (some ⟨s + 1 + 1 + 1, 0, none⟩), .pointer (some ⟨s + 1 + 1 + 1 + 1, 0, none⟩), .pointer (some ⟨s + 1 + 1 + 1 + 1 + 1, 0, none⟩), .pointer (some ⟨bz, 0, none⟩), v 7, v 8, v 9, v 10, v 11, v 12, v 13, v 14, v 15, v 16, v 17, v 18, v 19, v 20, v 21, v 22, v 23, v 24, v 25, v 26, v 27, v 28, v 29, v 30, v 31, v 32, v 33, v 34, v 35, v 36, v 37, v 38, v 39, v 40, v 41, v 42, v 43, v 44, v 45, v 46, v 47, v 48, .pointer (some ⟨bz, 1, none⟩), .int .i64 x.size, .pointer (some ⟨bz, 0, none⟩), .int .i64 x.at', v 53, v 54, v 55, v 56, v 57, v 58, v 59, v 60, v 61, v 62, v 63, v 64, v 65, v 66, v 67, v 68, v 69, v 70, v 71, v 72, v 73, v 74, v 75, v 76, v 77, v 78, v 79, v 80, v 81, v 82, v 83, v 84, v 85, v 86, v 87, v 88, v 89, v 90, v 91, v 92, v 93, v 94, v 95, v 96, v 97, v 98, v 99, v 100, v 101, v 102, v 103, v 104, v 105, v 106, v 107, v 108, v 109, v 110, v 111, v 112, v 113, v 114, v 115, v 116, v 117, v 118, v 119], defers := [] } Wb := hG _ _ _ _ (by
          dsimp only
          refine wpAnyIn_ready (rs := [4]) (by kernel_rfl) (List.cons_ne_nil _ _) ?_
          refine allReadyIn_want (i := 4) rfl (by kernel_rfl) (fun K9 hK9 => ?_) ?_
          · simp only [List.getElem_toArray, List.getElem_cons_succ, List.getElem_cons_zero]
            first | gi_big_move | gi_big_op
            exact hK9 _ _ (hG2 _ _ _ _ G5)
          exact AllReadyIn.nil)
        have G10 : G 4 #[true, true, true, false, true, true, false, false, false] { tmps := #[.pointer (some ⟨h, 0, none⟩), .pointer (some ⟨s, 0, none⟩), .pointer (some ⟨s + 1, 0, none⟩), .pointer (some ⟨s + 1 + 1 + 1, 0, none⟩), .pointer (some ⟨s + 1 + 1 + 1 + 1, 0, none⟩), .pointer (some ⟨s + 1 + 1 + 1 + 1 + 1, 0, none⟩), .pointer (some ⟨bz, 0, none⟩), v 7, v 8, v 9, v 10, v 11, v 12, v 13, v 14, v 15, v 16, v 17, v 18, v 19, v 20, v 21, v 22, v 23, v 24, v 25, v 26, v 27, v 28, v 29, v 30, v 31, v 32, v 33, v 34, v 35, v 36, v 37, v 38, v 39, v 40, v 41, v 42, v 43, v 44, v 45, v 46, v 47, v 48, .pointer (some ⟨bz, 1, none⟩), .int .i64 x.size, .pointer (some ⟨bz, 0, none⟩), v 52, .pointer (some ⟨bz, 1, none⟩), .int .i64 x.size, v 55, v 56, v 57, v 58, v 59, v 60, v 61, v 62, v 63, v 64, v 65, v 66, v 67, v 68, v 69, v 70, v 71, v 72, v 73, v 74, v 75, v 76, v 77, v 78, v 79, v 80, v 81, v 82, v 83, v 84, v 85, v 86, v 87, v 88, v 89, v 90, v 91, v 92, v 93, v 94, v 95, v 96, v 97, v 98, v 99, v 100, v 101, v 102, v 103, v 104, v 105, v 106, v 107, v 108, v 109, v 110, v 111, v 112, v 113, v 114, v 115, v 116, v 117, v 118, v 119], defers := [] } Wa := hG _ _ _ _ (by
          dsimp only
          refine wpAnyIn_ready (rs := [3, 7]) (by kernel_rfl) (List.cons_ne_nil _ _) ?_
          refine allReadyIn_want (i := 3) rfl (by kernel_rfl) (fun K9 hK9 => ?_) ?_
          · simp only [List.getElem_toArray, List.getElem_cons_succ, List.getElem_cons_zero]
            first | gi_big_move | gi_big_op
            exact hK9 _ _ (hG2 _ _ _ _ G4)
          refine allReadyIn_want (i := 7) rfl (by kernel_rfl) (fun K9 hK9 => ?_) ?_
          · simp only [List.getElem_toArray, List.getElem_cons_succ, List.getElem_cons_zero]
            first | gi_big_move | gi_big_op
            exact hK9 _ _ (hG2 _ _ _ _ G6)
          exact AllReadyIn.nil)
        have G11 : G 4 #[true, true, true, false, true, false, false, true, false] { tmps := #[.pointer (some ⟨h, 0, none⟩), .pointer (some ⟨s, 0, none⟩), .pointer (some ⟨s + 1, 0, none⟩), .pointer (some ⟨s + 1 + 1 + 1, 0, none⟩), .pointer (some ⟨s + 1 + 1 + 1 + 1, 0, none⟩), .pointer (some ⟨s + 1 + 1 + 1 + 1 + 1, 0, none⟩), .pointer (some ⟨bz, 0, none⟩), v 7, v 8, v 9, v 10, v 11, v 12, v 13, v 14, v 15, v 16, v 17, v 18, v 19, v 20, v 21, v 22, v 23, v 24, v 25, v 26, v 27, v 28, v 29, v 30, v 31, v 32, v 33, v 34, v 35, v 36, v 37, v 38, v 39, v 40, v 41, v 42, v 43, v 44, v 45, v 46, v 47, v 48, .pointer (some ⟨bz, 1, none⟩), .int .i64 x.size, .pointer (some ⟨bz, 0, none⟩), v 52, .pointer (some ⟨bz, 1, none⟩), v 54, v 55, v 56, v 57, v 58, v 59, v 60, v 61, v 62, v 63, v 64, v 65, v 66, v 67, v 68, v 69, v 70, v 71, v 72, v 73, v 74, v 75, v 76, v 77, v 78, v 79, v 80, v 81, v 82, v 83, v 84, v 85, v 86, v 87, v 88, v 89, v 90, v 91, v 92, v 93, v 94, v 95, v 96, v 97, v 98, v 99, v 100, v 101, v 102, v 103, v 104, v 105, v 106, v 107, v 108, v 109, v 110, v 111, v 112, v 113, v 114, v 115, v 116, v 117, v 118, v 119], defers := [] } Wb := hG _ _ _ _ (by
          dsimp only
          refine wpAnyIn_ready (rs := [3, 5]) (by kernel_rfl) (List.cons_ne_nil _ _) ?_
          refine allReadyIn_want (i := 3) rfl (by kernel_rfl) (fun K9 hK9 => ?_) ?_
          · simp only [List.getElem_toArray, List.getElem_cons_succ, List.getElem_cons_zero]
            first | gi_big_move | gi_big_op
            exact hK9 _ _ (hG2 _ _ _ _ G5)
          refine allReadyIn_want (i := 5) rfl (by kernel_rfl) (fun K9 hK9 => ?_) ?_
          · simp only [List.getElem_toArray, List.getElem_cons_succ, List.getElem_cons_zero]
            first | gi_big_move | gi_big_op
            exact hK9 _ _ (hG2 _ _ _ _ G6)
          exact AllReadyIn.nil)
        have G12 : G 4 #[true, true, false, false, true, true, false, true, false] { tmps := #[.pointer (some ⟨h, 0, none⟩), .pointer (some ⟨s, 0, none⟩), .pointer (some ⟨s + 1, 0, none⟩), .pointer (some ⟨s + 1 + 1 + 1, 0, none⟩), .pointer (some ⟨s + 1 + 1 + 1 + 1, 0, none⟩), .pointer (some ⟨s + 1 + 1 + 1 + 1 + 1, 0, none⟩), .pointer (some ⟨bz, 0, none⟩), v 7, v 8, v 9, v 10, v 11, v 12, v 13, v 14, v 15, v 16, v 17, v 18, v 19, v 20, v 21, v 22, v 23, v 24, v 25, v 26, v 27, v 28, v 29, v 30, v 31, v 32, v 33, v 34, v 35, v 36, v 37, v 38, v 39, v 40, v 41, v 42, v 43, v 44, v 45, v 46, v 47, v 48, .pointer (some ⟨bz, 1, none⟩), .int .i64 x.size, v 51, v 52, .pointer (some ⟨bz, 1, none⟩), .int .i64 x.size, v 55, v 56, v 57, v 58, v 59, v 60, v 61, v 62, v 63, v 64, v 65, v 66, v 67, v 68, v 69, v 70, v 71, v 72, v 73, v 74, v 75, v 76, v 77, v 78, v 79, v 80, v 81, v 82, v 83, v 84, v 85, v 86, v 87, v 88, v 89, v 90, v 91, v 92, v 93, v 94, v 95, v 96, v 97, v 98, v 99, v 100, v 101, v 102, v 103, v 104, v 105, v 106, v 107, v 108, v 109, v 110, v 111, v 112, v 113, v 114, v 115, v 116, v 117, v 118, v 119], defers := [] } Wb := hG _ _ _ _ (by
          dsimp only
          refine wpAnyIn_ready (rs := [2]) (by kernel_rfl) (List.cons_ne_nil _ _) ?_
          refine allReadyIn_want (i := 2) rfl (by kernel_rfl) (fun K9 hK9 => ?_) ?_
          · simp only [List.getElem_toArray, List.getElem_cons_succ, List.getElem_cons_zero]
            first | gi_big_move | gi_big_op
            exact hK9 _ _ (hG2 _ _ _ _ G6)
          exact AllReadyIn.nil)
        have G13 : G 4 #[true, false, true, true, true, true, false, false, false] { tmps := #[.pointer (some ⟨h, 0, none⟩), .pointer (some ⟨s, 0, none⟩), .pointer (some ⟨s + 1, 0, none⟩), .pointer (some ⟨s + 1 + 1 + 1, 0, none⟩), .pointer (some ⟨s + 1 + 1 + 1 + 1, 0, none⟩), .pointer (some ⟨s + 1 + 1 + 1 + 1 + 1, 0, none⟩), .pointer (some ⟨bz, 0, none⟩), v 7, v 8, v 9, v 10, v 11, v 12, v 13, v 14, v 15, v 16, v 17, v 18, v 19, v 20, v 21, v 22, v 23, v 24, v 25, v 26, v 27, v 28, v 29, v 30, v 31, v 32, v 33, v 34, v 35, v 36, v 37, v 38, v 39, v 40, v 41, v 42, v 43, v 44, v 45, v 46, v 47, v 48, .pointer (some ⟨bz, 1, none⟩), v 50, .pointer (some ⟨bz, 0, none⟩), .int .i64 x.at', .pointer (some ⟨bz, 1, none⟩), .int .i64 x.size, v 55, v 56, v 57, v 58, v 59, v 60, v 61, v 62, v 63, v 64, v 65, v 66, v 67, v 68, v 69, v 70, v 71, v 72, v 73, v 74, v 75, v 76, v 77, v 78, v 79, v 80, v 81, v 82, v 83, v 84, v 85, v 86, v 87, v 88, v 89, v 90, v 91, v 92, v 93, v 94, v 95, v 96, v 97, v 98, v 99, v 100, v 101, v 102, v 103, v 104, v 105, v 106, v 107, v 108, v 109, v 110, v 111, v 112, v 113, v 114, v 115, v 116, v 117, v 118, v 119], defers := [] } Wa := hG _ _ _ _ (by
          dsimp only
          refine wpAnyIn_ready (rs := [1, 6]) (by kernel_rfl) (List.cons_ne_nil _ _) ?_
          refine allReadyIn_want (i := 1) rfl (by kernel_rfl) (fun K9 hK9 => ?_) ?_
          · simp only [List.getElem_toArray, List.getElem_cons_succ, List.getElem_cons_zero]
            first | gi_big_move | gi_big_op
            exact hK9 _ _ (hG2 _ _ _ _ G4)
          refine allReadyIn_want (i := 6) rfl (by kernel_rfl) (fun K9 hK9 => ?_) ?_
          · simp only [List.getElem_toArray, List.getElem_cons_succ, List.getElem_cons_zero]
            first | gi_big_move | gi_big_op
            exact hK9 _ _ (hG2 _ _ _ _ G7)
          exact AllReadyIn.nil)
        have G14 : G 4 #[false, false, true, true, true, true, true, false, false] { tmps := #[.pointer (some ⟨h, 0, none⟩), .pointer (some ⟨s, 0, none⟩), .pointer (some ⟨s + 1, 0, none⟩), .pointer (some ⟨s + 1 + 1 + 1, 0, none⟩), .pointer (some ⟨s + 1 + 1 + 1 + 1, 0, none⟩), .pointer (some ⟨s + 1 + 1 + 1 + 1 + 1, 0, none⟩), .pointer (some ⟨bz, 0, none⟩), v 7, v 8, v 9, v 10, v 11, v 12, v 13, v 14, v 15, v 16, v 17, v 18, v 19, v 20, v 21, v 22, v 23, v 24, v 25, v 26, v 27, v 28, v 29, v 30, v 31, v 32, v 33, v 34, v 35, v 36, v 37, v 38, v 39, v 40, v 41, v 42, v 43, v 44, v 45, v 46, v 47, v 48, v 49, v 50, .pointer (some ⟨bz, 0, none⟩), .int .i64 x.at', .pointer (some ⟨bz, 1, none⟩), .int .i64 x.size, .int .i64 ((x.at' : Int) + x.size), v 56, v 57, v 58, v 59, v 60, v 61, v 62, v 63, v 64, v 65, v 66, v 67, v 68, v 69, v 70, v 71, v 72, v 73, v 74, v 75, v 76, v 77, v 78, v 79, v 80, v 81, v 82, v 83, v 84, v 85, v 86, v 87, v 88, v 89, v 90, v 91, v 92, v 93, v 94, v 95, v 96, v 97, v 98, v 99, v 100, v 101, v 102, v 103, v 104, v 105, v 106, v 107, v 108, v 109, v 110, v 111, v 112, v 113, v 114, v 115, v 116, v 117, v 118, v 119], defers := [] } Wa := hG _ _ _ _ (by
          dsimp only
          refine wpAnyIn_ready (rs := [0]) (by kernel_rfl) (List.cons_ne_nil _ _) ?_
          refine allReadyIn_want (i := 0) rfl (by kernel_rfl) (fun K9 hK9 => ?_) ?_
          · simp only [List.getElem_toArray, List.getElem_cons_succ, List.getElem_cons_zero]
            first | gi_big_move | gi_big_op
            exact hK9 _ _ (hG2 _ _ _ _ G7)
          exact AllReadyIn.nil)
        have G15 : G 5 #[true, true, true, true, false, false, false, false, false] { tmps := #[.pointer (some ⟨h, 0, none⟩), .pointer (some ⟨s, 0, none⟩), .pointer (some ⟨s + 1, 0, none⟩), .pointer (some ⟨s + 1 + 1 + 1, 0, none⟩), .pointer (some ⟨s + 1 + 1 + 1 + 1, 0, none⟩), .pointer (some ⟨s + 1 + 1 + 1 + 1 + 1, 0, none⟩), .pointer (some ⟨bz, 0, none⟩), v 7, v 8, v 9, v 10, v 11, v 12, v 13, v 14, v 15, v 16, v 17, v 18, v 19, v 20, v 21, v 22, v 23, v 24, v 25, v 26, v 27, v 28, v 29, v 30, v 31, v 32, v 33, v 34, v 35, v 36, v 37, v 38, v 39, v 40, v 41, v 42, v 43, v 44, v 45, v 46, v 47, v 48, .pointer (some ⟨bz, 1, none⟩), .int .i64 x.size, .pointer (some ⟨bz, 0, none⟩), .int .i64 x.at', v 53, v 54, v 55, v 56, v 57, v 58, v 59, v 60, v 61, v 62, v 63, v 64, v 65, v 66, v 67, v 68, v 69, v 70, v 71, v 72, v 73, v 74, v 75, v 76, v 77, v 78, v 79, v 80, v 81, v 82, v 83, v 84, v 85, v 86, v 87, v 88, v 89, v 90, v 91, v 92, v 93, v 94, v 95, v 96, v 97, v 98, v 99, v 100, v 101, v 102, v 103, v 104, v 105, v 106, v 107, v 108, v 109, v 110, v 111, v 112, v 113, v 114, v 115, v 116, v 117, v 118, v 119], defers := [] } Wa := hG _ _ _ _ (by
          dsimp only
          refine wpAnyIn_ready (rs := [4, 7]) (by kernel_rfl) (List.cons_ne_nil _ _) ?_
          refine allReadyIn_want (i := 4) rfl (by kernel_rfl) (fun K9 hK9 => ?_) ?_
          · simp only [List.getElem_toArray, List.getElem_cons_succ, List.getElem_cons_zero]
            first | gi_big_move | gi_big_op
            exact hK9 _ _ (hG2 _ _ _ _ G8)
          refine allReadyIn_want (i := 7) rfl (by kernel_rfl) (fun K9 hK9 => ?_) ?_
          · simp only [List.getElem_toArray, List.getElem_cons_succ, List.getElem_cons_zero]
            first | gi_big_move | gi_big_op
            exact hK9 _ _ (hG2 _ _ _ _ G9)
          exact AllReadyIn.nil)
        have G16 : G 5 #[true, true, true, false, true, false, false, false, false] { tmps := #[.pointer (some ⟨h, 0, none⟩), .pointer (some ⟨s, 0, none⟩), .pointer (some ⟨s + 1, 0, none⟩), .pointer (some ⟨s + 1 + 1 + 1, 0, none⟩), .pointer (some ⟨s + 1 + 1 + 1 + 1, 0, none⟩), .pointer (some ⟨s + 1 + 1 + 1 + 1 + 1, 0, none⟩), .pointer (some ⟨bz, 0, none⟩), v 7, v 8, v 9, v 10, v 11, v 12, v 13, v 14, v 15, v 16, v 17, v 18, v 19, v 20, v 21, v 22, v 23, v 24, v 25, v 26, v 27, v 28, v 29, v 30, v 31, v 32, v 33, v 34, v 35, v 36, v 37, v 38, v 39, v 40, v 41, v 42, v 43, v 44, v 45, v 46, v 47, v 48, .pointer (some ⟨bz, 1, none⟩), .int .i64 x.size, .pointer (some ⟨bz, 0, none⟩), v 52, .pointer (some ⟨bz, 1, none⟩), v 54, v 55, v 56, v 57, v 58, v 59, v 60, v 61, v 62, v 63, v 64, v 65, v 66, v 67, v 68, v 69, v 70, v 71, v 72, v 73, v 74, v 75, v 76, v 77, v 78, v 79, v 80, v 81, v 82, v 83, v 84, v 85, v 86, v 87, v 88, v 89, v 90, v 91, v 92, v 93, v 94, v 95, v 96, v 97, v 98, v 99, v 100, v 101, v 102, v 103, v 104, v 105, v 106, v 107, v 108, v 109, v 110, v 111, v 112, v 113, v 114, v 115, v 116, v 117, v 118, v 119], defers := [] } Wa := hG _ _ _ _ (by
          dsimp only
          refine wpAnyIn_ready (rs := [3, 5, 7]) (by kernel_rfl) (List.cons_ne_nil _ _) ?_
          refine allReadyIn_want (i := 3) rfl (by kernel_rfl) (fun K9 hK9 => ?_) ?_
          · simp only [List.getElem_toArray, List.getElem_cons_succ, List.getElem_cons_zero]
            first | gi_big_move | gi_big_op
            exact hK9 _ _ (hG2 _ _ _ _ G8)
          refine allReadyIn_want (i := 5) rfl (by kernel_rfl) (fun K9 hK9 => ?_) ?_
          · simp only [List.getElem_toArray, List.getElem_cons_succ, List.getElem_cons_zero]
            first | gi_big_move | gi_big_op
            exact hK9 _ _ (hG2 _ _ _ _ G10)
          refine allReadyIn_want (i := 7) rfl (by kernel_rfl) (fun K9 hK9 => ?_) ?_
          · simp only [List.getElem_toArray, List.getElem_cons_succ, List.getElem_cons_zero]
            first | gi_big_move | gi_big_op
            exact hK9 _ _ (hG2 _ _ _ _ G11)
          exact AllReadyIn.nil)
        have G17 : G 5 #[true, true, true, false, false, false, false, true, false] { tmps := #[.pointer (some ⟨h, 0, none⟩), .pointer (some ⟨s, 0, none⟩), .pointer (some ⟨s + 1, 0, none⟩), .pointer (some ⟨s + 1 + 1 + 1, 0, none⟩), .pointer (some ⟨s + 1 + 1 + 1 + 1, 0, none⟩), .pointer (some ⟨s + 1 + 1 + 1 + 1 + 1, 0, none⟩), .pointer (some ⟨bz, 0, none⟩), v 7, v 8, v 9, v 10, v 11, v 12, v 13, v 14, v 15, v 16, v 17, v 18, v 19, v 20, v 21, v 22, v 23, v 24, v 25, v 26, v 27, v 28, v 29, v 30, v 31, v 32, v 33, v 34, v 35, v 36, v 37, v 38, v 39, v 40, v 41, v 42, v 43, v 44, v 45, v 46, v 47, v 48, .pointer (some ⟨bz, 1, none⟩), .int .i64 x.size, .pointer (some ⟨bz, 0, none⟩), v 52, v 53, v 54, v 55, v 56, v 57, v 58, v 59, v 60, v 61, v 62, v 63, v 64, v 65, v 66, v 67, v 68, v 69, v 70, v 71, v 72, v 73, v 74, v 75, v 76, v 77, v 78, v 79, v 80, v 81, v 82, v 83, v 84, v 85, v 86, v 87, v 88, v 89, v 90, v 91, v 92, v 93, v 94, v 95, v 96, v 97, v 98, v 99, v 100, v 101, v 102, v 103, v 104, v 105, v 106, v 107, v 108, v 109, v 110, v 111, v 112, v 113, v 114, v 115, v 116, v 117, v 118, v 119], defers := [] } Wb := hG _ _ _ _ (by
          dsimp only
          refine wpAnyIn_ready (rs := [3, 4]) (by kernel_rfl) (List.cons_ne_nil _ _) ?_
          refine allReadyIn_want (i := 3) rfl (by kernel_rfl) (fun K9 hK9 => ?_) ?_
          · simp only [List.getElem_toArray, List.getElem_cons_succ, List.getElem_cons_zero]
            first | gi_big_move | gi_big_op
            exact hK9 _ _ (hG2 _ _ _ _ G9)
          refine allReadyIn_want (i := 4) rfl (by kernel_rfl) (fun K9 hK9 => ?_) ?_
          · simp only [List.getElem_toArray, List.getElem_cons_succ, List.getElem_cons_zero]
            first | gi_big_move | gi_big_op
            exact hK9 _ _ (hG2 _ _ _ _ G11)
          exact AllReadyIn.nil)
        have G18 : G 5 #[true, true, false, false, true, true, false, false, false] { tmps := #[.pointer (some ⟨h, 0, none⟩), .pointer (some ⟨s, 0, none⟩), .pointer (some ⟨s + 1, 0, none⟩), .pointer (some ⟨s + 1 + 1 + 1, 0, none⟩), .pointer (some ⟨s + 1 + 1 + 1 + 1, 0, none⟩), .pointer (some ⟨s + 1 + 1 + 1 + 1 + 1, 0, none⟩), .pointer (some ⟨bz, 0, none⟩), v 7, v 8, v 9, v 10, v 11, v 12, v 13, v 14, v 15, v 16, v 17, v 18, v 19, v 20, v 21, v 22, v 23, v 24, v 25, v 26, v 27, v 28, v 29, v 30, v 31, v 32, v 33, v 34, v 35, v 36, v 37, v 38, v 39, v 40, v 41, v 42, v 43, v 44, v 45, v 46, v 47, v 48, .pointer (some ⟨bz, 1, none⟩), .int .i64 x.size, v 51, v 52, .pointer (some ⟨bz, 1, none⟩), .int .i64 x.size, v 55, v 56, v 57, v 58, v 59, v 60, v 61, v 62, v 63, v 64, v 65, v 66, v 67, v 68, v 69, v 70, v 71, v 72, v 73, v 74, v 75, v 76, v 77, v 78, v 79, v 80, v 81, v 82, v 83, v 84, v 85, v 86, v 87, v 88, v 89, v 90, v 91, v 92, v 93, v 94, v 95, v 96, v 97, v 98, v 99, v 100, v 101, v 102, v 103, v 104, v 105, v 106, v 107, v 108, v 109, v 110, v 111, v 112, v 113, v 114, v 115, v 116, v 117, v 118, v 119], defers := [] } Wa := hG _ _ _ _ (by
          dsimp only
          refine wpAnyIn_ready (rs := [2, 7]) (by kernel_rfl) (List.cons_ne_nil _ _) ?_
          refine allReadyIn_want (i := 2) rfl (by kernel_rfl) (fun K9 hK9 => ?_) ?_
          · simp only [List.getElem_toArray, List.getElem_cons_succ, List.getElem_cons_zero]
            first | gi_big_move | gi_big_op
            exact hK9 _ _ (hG2 _ _ _ _ G10)
          refine allReadyIn_want (i := 7) rfl (by kernel_rfl) (fun K9 hK9 => ?_) ?_
          · simp only [List.getElem_toArray, List.getElem_cons_succ, List.getElem_cons_zero]
            first | gi_big_move | gi_big_op
            exact hK9 _ _ (hG2 _ _ _ _ G12)
          exact AllReadyIn.nil)
        have G19 : G 5 #[true, true, false, false, true, false, false, true, false] { tmps := #[.pointer (some ⟨h, 0, none⟩), .pointer (some ⟨s, 0, none⟩), .pointer (some ⟨s + 1, 0, none⟩), .pointer (some ⟨s + 1 + 1 + 1, 0, none⟩), .pointer (some ⟨s + 1 + 1 + 1 + 1, 0, none⟩), .pointer (some ⟨s + 1 + 1 + 1 + 1 + 1, 0, none⟩), .pointer (some ⟨bz, 0, none⟩), v 7, v 8, v 9, v 10, v 11, v 12, v 13, v 14, v 15, v 16, v 17, v 18, v 19, v 20, v 21, v 22, v 23, v 24, v 25, v 26, v 27, v 28, v 29, v 30, v 31, v 32, v 33, v 34, v 35, v 36, v 37, v 38, v 39, v 40, v 41, v 42, v 43, v 44, v 45, v 46, v 47, v 48, .pointer (some ⟨bz, 1, none⟩), .int .i64 x.size, v 51, v 52, .pointer (some ⟨bz, 1, none⟩), v 54, v 55, v 56, v 57, v 58, v 59, v 60, v 61, v 62, v 63, v 64, v 65, v 66, v 67, v 68, v 69, v 70, v 71, v 72, v 73, v 74, v 75, v 76, v 77, v 78, v 79, v 80, v 81, v 82, v 83, v 84, v 85, v 86, v 87, v 88, v 89, v 90, v 91, v 92, v 93, v 94, v 95, v 96, v 97, v 98, v 99, v 100, v 101, v 102, v 103, v 104, v 105, v 106, v 107, v 108, v 109, v 110, v 111, v 112, v 113, v 114, v 115, v 116, v 117, v 118, v 119], defers := [] } Wb := hG _ _ _ _ (by
          dsimp only
          refine wpAnyIn_ready (rs := [2, 5]) (by kernel_rfl) (List.cons_ne_nil _ _) ?_
          refine allReadyIn_want (i := 2) rfl (by kernel_rfl) (fun K9 hK9 => ?_) ?_
          · simp only [List.getElem_toArray, List.getElem_cons_succ, List.getElem_cons_zero]
            first | gi_big_move | gi_big_op
            exact hK9 _ _ (hG2 _ _ _ _ G11)
          refine allReadyIn_want (i := 5) rfl (by kernel_rfl) (fun K9 hK9 => ?_) ?_
          · simp only [List.getElem_toArray, List.getElem_cons_succ, List.getElem_cons_zero]
            first | gi_big_move | gi_big_op
            exact hK9 _ _ (hG2 _ _ _ _ G12)
          exact AllReadyIn.nil)
        have G20 : G 5 #[true, false, true, true, true, false, false, false, false] { tmps := #[.pointer (some ⟨h, 0, none⟩), .pointer (some ⟨s, 0, none⟩), .pointer (some ⟨s + 1, 0, none⟩), .pointer (some ⟨s + 1 + 1 + 1, 0, none⟩), .pointer (some ⟨s + 1 + 1 + 1 + 1, 0, none⟩), .pointer (some ⟨s + 1 + 1 + 1 + 1 + 1, 0, none⟩), .pointer (some ⟨bz, 0, none⟩), v 7, v 8, v 9, v 10, v 11, v 12, v 13, v 14, v 15, v 16, v 17, v 18, v 19, v 20, v 21, v 22, v 23, v 24, v 25, v 26, v 27, v 28, v 29, v 30, v 31, v 32, v 33, v 34, v 35, v 36, v 37, v 38, v 39, v 40, v 41, v 42, v 43, v 44, v 45, v 46, v 47, v 48, .pointer (some ⟨bz, 1, none⟩), v 50, .pointer (some ⟨bz, 0, none⟩), .int .i64 x.at', .pointer (some ⟨bz, 1, none⟩), v 54, v 55, v 56, v 57, v 58, v 59, v 60, v 61, v 62, v 63, v 64, v 65, v 66, v 67, v 68, v 69, v 70, v 71, v 72, v 73, v 74, v 75, v 76, v 77, v 78, v 79, v 80, v 81, v 82, v 83, v 84, v 85, v 86, v 87, v 88, v 89, v 90, v 91, v 92, v 93, v 94, v 95, v 96, v 97, v 98, v 99, v 100, v 101, v 102, v 103, v 104, v 105, v 106, v 107, v 108, v 109, v 110, v 111, v 112, v 113, v 114, v 115, v 116, v 117, v 118, v 119], defers := [] } Wa := hG _ _ _ _ (by
          dsimp only
          refine wpAnyIn_ready (rs := [1, 5]) (by kernel_rfl) (List.cons_ne_nil _ _) ?_
          refine allReadyIn_want (i := 1) rfl (by kernel_rfl) (fun K9 hK9 => ?_) ?_
          · simp only [List.getElem_toArray, List.getElem_cons_succ, List.getElem_cons_zero]
            first | gi_big_move | gi_big_op
            exact hK9 _ _ (hG2 _ _ _ _ G8)
          refine allReadyIn_want (i := 5) rfl (by kernel_rfl) (fun K9 hK9 => ?_) ?_
          · simp only [List.getElem_toArray, List.getElem_cons_succ, List.getElem_cons_zero]
            first | gi_big_move | gi_big_op
            exact hK9 _ _ (hG2 _ _ _ _ G13)
          exact AllReadyIn.nil)
        have G21 : G 5 #[true, false, true, false, true, true, false, false, false] { tmps := #[.pointer (some ⟨h, 0, none⟩), .pointer (some ⟨s, 0, none⟩), .pointer (some ⟨s + 1, 0, none⟩), .pointer (some ⟨s + 1 + 1 + 1, 0, none⟩), .pointer (some ⟨s + 1 + 1 + 1 + 1, 0, none⟩), .pointer (some ⟨s + 1 + 1 + 1 + 1 + 1, 0, none⟩), .pointer (some ⟨bz, 0, none⟩), v 7, v 8, v 9, v 10, v 11, v 12, v 13, v 14, v 15, v 16, v 17, v 18, v 19, v 20, v 21, v 22, v 23, v 24, v 25, v 26, v 27, v 28, v 29, v 30, v 31, v 32, v 33, v 34, v 35, v 36, v 37, v 38, v 39, v 40, v 41, v 42, v 43, v 44, v 45, v 46, v 47, v 48, .pointer (some ⟨bz, 1, none⟩), v 50, .pointer (some ⟨bz, 0, none⟩), v 52, .pointer (some ⟨bz, 1, none⟩), .int .i64 x.size, v 55, v 56, v 57, v 58, v 59, v 60, v 61, v 62, v 63, v 64, v 65, v 66, v 67, v 68, v 69, v 70, v 71, v 72, v 73, v 74, v 75, v 76, v 77, v 78, v 79, v 80, v 81, v 82, v 83, v 84, v 85, v 86, v 87, v 88, v 89, v 90, v 91, v 92, v 93, v 94, v 95, v 96, v 97, v 98, v 99, v 100, v 101, v 102, v 103, v 104, v 105, v 106, v 107, v 108, v 109, v 110, v 111, v 112, v 113, v 114, v 115, v 116, v 117, v 118, v 119], defers := [] } Wa := hG _ _ _ _ (by
          dsimp only
          refine wpAnyIn_ready (rs := [1, 3]) (by kernel_rfl) (List.cons_ne_nil _ _) ?_
          refine allReadyIn_want (i := 1) rfl (by kernel_rfl) (fun K9 hK9 => ?_) ?_
          · simp only [List.getElem_toArray, List.getElem_cons_succ, List.getElem_cons_zero]
            first | gi_big_move | gi_big_op
            exact hK9 _ _ (hG2 _ _ _ _ G10)
          refine allReadyIn_want (i := 3) rfl (by kernel_rfl) (fun K9 hK9 => ?_) ?_
          · simp only [List.getElem_toArray, List.getElem_cons_succ, List.getElem_cons_zero]
            first | gi_big_move | gi_big_op
            exact hK9 _ _ (hG2 _ _ _ _ G13)
          exact AllReadyIn.nil)
        have G22 : G 5 #[false, false, true, true, true, true, false, false, false] { tmps := #[.pointer (some ⟨h, 0, none⟩), .pointer (some ⟨s, 0, none⟩), .pointer (some ⟨s + 1, 0, none⟩), .pointer (some ⟨s + 1 + 1 + 1, 0, none⟩), .pointer (some ⟨s + 1 + 1 + 1 + 1, 0, none⟩), .pointer (some ⟨s + 1 + 1 + 1 + 1 + 1, 0, none⟩), .pointer (some ⟨bz, 0, none⟩), v 7, v 8, v 9, v 10, v 11, v 12, v 13, v 14, v 15, v 16, v 17, v 18, v 19, v 20, v 21, v 22, v 23, v 24, v 25, v 26, v 27, v 28, v 29, v 30, v 31, v 32, v 33, v 34, v 35, v 36, v 37, v 38, v 39, v 40, v 41, v 42, v 43, v 44, v 45, v 46, v 47, v 48, v 49, v 50, .pointer (some ⟨bz, 0, none⟩), .int .i64 x.at', .pointer (some ⟨bz, 1, none⟩), .int .i64 x.size, v 55, v 56, v 57, v 58, v 59, v 60, v 61, v 62, v 63, v 64, v 65, v 66, v 67, v 68, v 69, v 70, v 71, v 72, v 73, v 74, v 75, v 76, v 77, v 78, v 79, v 80, v 81, v 82, v 83, v 84, v 85, v 86, v 87, v 88, v 89, v 90, v 91, v 92, v 93, v 94, v 95, v 96, v 97, v 98, v 99, v 100, v 101, v 102, v 103, v 104, v 105, v 106, v 107, v 108, v 109, v 110, v 111, v 112, v 113, v 114, v 115, v 116, v 117, v 118, v 119], defers := [] } Wa := hG _ _ _ _ (by
          dsimp only
          refine wpAnyIn_ready (rs := [0, 6]) (by kernel_rfl) (List.cons_ne_nil _ _) ?_
          refine allReadyIn_want (i := 0) rfl (by kernel_rfl) (fun K9 hK9 => ?_) ?_
          · simp only [List.getElem_toArray, List.getElem_cons_succ, List.getElem_cons_zero]
            first | gi_big_move | gi_big_op
            exact hK9 _ _ (hG2 _ _ _ _ G13)
          refine allReadyIn_want (i := 6) rfl (by kernel_rfl) (fun K9 hK9 => ?_) ?_
          · simp only [List.getElem_toArray, List.getElem_cons_succ, List.getElem_cons_zero]
            first | gi_big_move | gi_big_op
            exact hK9 _ _ (hG2 _ _ _ _ G14)
          exact AllReadyIn.nil)
        have G23 : G 6 #[true, true, true, false, false, false, false, false, false] { tmps := #[.pointer (some ⟨h, 0, none⟩), .pointer (some ⟨s, 0, none⟩), .pointer (some ⟨s + 1, 0, none⟩), .pointer (some ⟨s + 1 + 1 + 1, 0, none⟩), .pointer (some ⟨s + 1 + 1 + 1 + 1, 0, none⟩), .pointer (some ⟨s + 1 + 1 + 1 + 1 + 1, 0, none⟩), .pointer (some ⟨bz, 0, none⟩), v 7, v 8, v 9, v 10, v 11, v 12, v 13, v 14, v 15, v 16, v 17, v 18, v 19, v 20, v 21, v 22, v 23, v 24, v 25, v 26, v 27, v 28, v 29, v 30, v 31, v 32, v 33, v 34, v 35, v 36, v 37, v 38, v 39, v 40, v 41, v 42, v 43, v 44, v 45, v 46, v 47, v 48, .pointer (some ⟨bz, 1, none⟩), .int .i64 x.size, .pointer (some ⟨bz, 0, none⟩), v 52, v 53, v 54, v 55, v 56, v 57, v 58, v 59, v 60, v 61, v 62, v 63, v 64, v 65, v 66, v 67, v 68, v 69, v 70, v 71, v 72, v 73, v 74, v 75, v 76, v 77, v 78, v 79, v 80, v 81, v 82, v 83, v 84, v 85, v 86, v 87, v 88, v 89, v 90, v 91, v 92, v 93, v 94, v 95, v 96, v 97, v 98, v 99, v 100, v 101, v 102, v 103, v 104, v 105, v 106, v 107, v 108, v 109, v 110, v 111, v 112, v 113, v 114, v 115, v 116, v 117, v 118, v 119], defers := [] } Wa := hG _ _ _ _ (by
          dsimp only
          refine wpAnyIn_ready (rs := [3, 4, 7]) (by kernel_rfl) (List.cons_ne_nil _ _) ?_
          refine allReadyIn_want (i := 3) rfl (by kernel_rfl) (fun K9 hK9 => ?_) ?_
          · simp only [List.getElem_toArray, List.getElem_cons_succ, List.getElem_cons_zero]
            first | gi_big_move | gi_big_op
            exact hK9 _ _ (hG2 _ _ _ _ G15)
          refine allReadyIn_want (i := 4) rfl (by kernel_rfl) (fun K9 hK9 => ?_) ?_
          · simp only [List.getElem_toArray, List.getElem_cons_succ, List.getElem_cons_zero]
            first | gi_big_move | gi_big_op
            exact hK9 _ _ (hG2 _ _ _ _ G16)
          refine allReadyIn_want (i := 7) rfl (by kernel_rfl) (fun K9 hK9 => ?_) ?_
          · simp only [List.getElem_toArray, List.getElem_cons_succ, List.getElem_cons_zero]
            first | gi_big_move | gi_big_op
            exact hK9 _ _ (hG2 _ _ _ _ G17)
          exact AllReadyIn.nil)
        have G24 : G 6 #[true, true, false, false, true, false, false, false, false] { tmps := #[.pointer (some ⟨h, 0, none⟩), .pointer (some ⟨s, 0, none⟩), .pointer (some ⟨s + 1, 0, none⟩), .pointer (some ⟨s + 1 + 1 + 1, 0, none⟩), .pointer (some ⟨s + 1 + 1 + 1 + 1, 0, none⟩), .pointer (some ⟨s + 1 + 1 + 1 + 1 + 1, 0, none⟩), .pointer (some ⟨bz, 0, none⟩), v 7, v 8, v 9, v 10, v 11, v 12, v 13, v 14, v 15, v 16, v 17, v 18, v 19, v 20, v 21, v 22, v 23, v 24, v 25, v 26, v 27, v 28, v 29, v 30, v 31, v 32, v 33, v 34, v 35, v 36, v 37, v 38, v 39, v 40, v 41, v 42, v 43, v 44, v 45, v 46, v 47, v 48, .pointer (some ⟨bz, 1, none⟩), .int .i64 x.size, v 51, v 52, .pointer (some ⟨bz, 1, none⟩), v 54, v 55, v 56, v 57, v 58, v 59, v 60, v 61, v 62, v 63, v 64, v 65, v 66, v 67, v 68, v 69, v 70, v 71, v 72, v 73, v 74, v 75, v 76, v 77, v 78, v 79, v 80, v 81, v 82, v 83, v 84, v 85, v 86, v 87, v 88, v 89, v 90, v 91, v 92, v 93, v 94, v 95, v 96, v 97, v 98, v 99, v 100, v 101, v 102, v 103, v 104, v 105, v 106, v 107, v 108, v 109, v 110, v 111, v 112, v 113, v 114, v 115, v 116, v 117, v 118, v 119], defers := [] } Wa := hG _ _ _ _ (by
          dsimp only
          refine wpAnyIn_ready (rs := [2, 5, 7]) (by kernel_rfl) (List.cons_ne_nil _ _) ?_
          refine allReadyIn_want (i := 2) rfl (by kernel_rfl) (fun K9 hK9 => ?_) ?_
          · simp only [List.getElem_toArray, List.getElem_cons_succ, List.getElem_cons_zero]
            first | gi_big_move | gi_big_op
            exact hK9 _ _ (hG2 _ _ _ _ G16)
          refine allReadyIn_want (i := 5) rfl (by kernel_rfl) (fun K9 hK9 => ?_) ?_
          · simp only [List.getElem_toArray, List.getElem_cons_succ, List.getElem_cons_zero]
            first | gi_big_move | gi_big_op
            exact hK9 _ _ (hG2 _ _ _ _ G18)
          refine allReadyIn_want (i := 7) rfl (by kernel_rfl) (fun K9 hK9 => ?_) ?_
          · simp only [List.getElem_toArray, List.getElem_cons_succ, List.getElem_cons_zero]
            first | gi_big_move | gi_big_op
            exact hK9 _ _ (hG2 _ _ _ _ G19)
          exact AllReadyIn.nil)
        have G25 : G 6 #[true, true, false, false, false, false, false, true, false] { tmps := #[.pointer (some ⟨h, 0, none⟩), .pointer (some ⟨s, 0, none⟩), .pointer (some ⟨s + 1, 0, none⟩), .pointer (some ⟨s + 1 + 1 + 1, 0, none⟩), .pointer (some ⟨s + 1 + 1 + 1 + 1, 0, none⟩), .pointer (some ⟨s + 1 + 1 + 1 + 1 + 1, 0, none⟩), .pointer (some ⟨bz, 0, none⟩), v 7, v 8, v 9, v 10, v 11, v 12, v 13, v 14, v 15, v 16, v 17, v 18, v 19, v 20, v 21, v 22, v 23, v 24, v 25, v 26, v 27, v 28, v 29, v 30, v 31, v 32, v 33, v 34, v 35, v 36, v 37, v 38, v 39, v 40, v 41, v 42, v 43, v 44, v 45, v 46, v 47, v 48, .pointer (some ⟨bz, 1, none⟩), .int .i64 x.size, v 51, v 52, v 53, v 54, v 55, v 56, v 57, v 58, v 59, v 60, v 61, v 62, v 63, v 64, v 65, v 66, v 67, v 68, v 69, v 70, v 71, v 72, v 73, v 74, v 75, v 76, v 77, v 78, v 79, v 80, v 81, v 82, v 83, v 84, v 85, v 86, v 87, v 88, v 89, v 90, v 91, v 92, v 93, v 94, v 95, v 96, v 97, v 98, v 99, v 100, v 101, v 102, v 103, v 104, v 105, v 106, v 107, v 108, v 109, v 110, v 111, v 112, v 113, v 114, v 115, v 116, v 117, v 118, v 119], defers := [] } Wb := hG _ _ _ _ (by
          dsimp only
          refine wpAnyIn_ready (rs := [2, 4]) (by kernel_rfl) (List.cons_ne_nil _ _) ?_
          refine allReadyIn_want (i := 2) rfl (by kernel_rfl) (fun K9 hK9 => ?_) ?_
          · simp only [List.getElem_toArray, List.getElem_cons_succ, List.getElem_cons_zero]
            first | gi_big_move | gi_big_op
            exact hK9 _ _ (hG2 _ _ _ _ G17)
          refine allReadyIn_want (i := 4) rfl (by kernel_rfl) (fun K9 hK9 => ?_) ?_
          · simp only [List.getElem_toArray, List.getElem_cons_succ, List.getElem_cons_zero]
            first | gi_big_move | gi_big_op
            exact hK9 _ _ (hG2 _ _ _ _ G19)
          exact AllReadyIn.nil)
        have G26 : G 6 #[true, false, true, true, false, false, false, false, false] { tmps := #[.pointer (some ⟨h, 0, none⟩), .pointer (some ⟨s, 0, none⟩), .pointer (some ⟨s + 1, 0, none⟩), .pointer (some ⟨s + 1 + 1 + 1, 0, none⟩), .pointer (some ⟨s + 1 + 1 + 1 + 1, 0, none⟩), .pointer (some ⟨s + 1 + 1 + 1 + 1 + 1, 0, none⟩), .pointer (some ⟨bz, 0, none⟩), v 7, v 8, v 9, v 10, v 11, v 12, v 13, v 14, v 15, v 16, v 17, v 18, v 19, v 20, v 21, v 22, v 23, v 24, v 25, v 26, v 27, v 28, v 29, v 30, v 31, v 32, v 33, v 34, v 35, v 36, v 37, v 38, v 39, v 40, v 41, v 42, v 43, v 44, v 45, v 46, v 47, v 48, .pointer (some ⟨bz, 1, none⟩), v 50, .pointer (some ⟨bz, 0, none⟩), .int .i64 x.at', v 53, v 54, v 55, v 56, v 57, v 58, v 59, v 60, v 61, v 62, v 63, v 64, v 65, v 66, v 67, v 68, v 69, v 70, v 71, v 72, v 73, v 74, v 75, v 76, v 77, v 78, v 79, v 80, v 81, v 82, v 83, v 84, v 85, v 86, v 87, v 88, v 89, v 90, v 91, v 92, v 93, v 94, v 95, v 96, v 97, v 98, v 99, v 100, v 101, v 102, v 103, v 104, v 105, v 106, v 107, v 108, v 109, v 110, v 111, v 112, v 113, v 114, v 115, v 116, v 117, v 118, v 119], defers := [] } Wa := hG _ _ _ _ (by
          dsimp only
          refine wpAnyIn_ready (rs := [1, 4]) (by kernel_rfl) (List.cons_ne_nil _ _) ?_
          refine allReadyIn_want (i := 1) rfl (by kernel_rfl) (fun K9 hK9 => ?_) ?_
          · simp only [List.getElem_toArray, List.getElem_cons_succ, List.getElem_cons_zero]
            first | gi_big_move | gi_big_op
            exact hK9 _ _ (hG2 _ _ _ _ G15)
          refine allReadyIn_want (i := 4) rfl (by kernel_rfl) (fun K9 hK9 => ?_) ?_
          · simp only [List.getElem_toArray, List.getElem_cons_succ, List.getElem_cons_zero]
            first | gi_big_move | gi_big_op
            exact hK9 _ _ (hG2 _ _ _ _ G20)
          exact AllReadyIn.nil)
        have G27 : G 6 #[true, false, true, false, true, false, false, false, false] { tmps := #[.pointer (some ⟨h, 0, none⟩), .pointer (some ⟨s, 0, none⟩), .pointer (some ⟨s + 1, 0, none⟩), .pointer (some ⟨s + 1 + 1 + 1, 0, none⟩), .pointer (some ⟨s + 1 + 1 + 1 + 1, 0, none⟩), .pointer (some ⟨s + 1 + 1 + 1 + 1 + 1, 0, none⟩), .pointer (some ⟨bz, 0, none⟩), v 7, v 8, v 9, v 10, v 11, v 12, v 13, v 14, v 15, v 16, v 17, v 18, v 19, v 20, v 21, v 22, v 23, v 24, v 25, v 26, v 27, v 28, v 29, v 30, v 31, v 32, v 33, v 34, v 35, v 36, v 37, v 38, v 39, v 40, v 41, v 42, v 43, v 44, v 45, v 46, v 47, v 48, .pointer (some ⟨bz, 1, none⟩), v 50, .pointer (some ⟨bz, 0, none⟩), v 52, .pointer (some ⟨bz, 1, none⟩), v 54, v 55, v 56, v 57, v 58, v 59, v 60, v 61, v 62, v 63, v 64, v 65, v 66, v 67, v 68, v 69, v 70, v 71, v 72, v 73, v 74, v 75, v 76, v 77, v 78, v 79, v 80, v 81, v 82, v 83, v 84, v 85, v 86, v 87, v 88, v 89, v 90, v 91, v 92, v 93, v 94, v 95, v 96, v 97, v 98, v 99, v 100, v 101, v 102, v 103, v 104, v 105, v 106, v 107, v 108, v 109, v 110, v 111, v 112, v 113, v 114, v 115, v 116, v 117, v 118, v 119], defers := [] } Wa := hG _ _ _ _ (by
          dsimp only
          refine wpAnyIn_ready (rs := [1, 3, 5]) (by kernel_rfl) (List.cons_ne_nil _ _) ?_
          refine allReadyIn_want (i := 1) rfl (by kernel_rfl) (fun K9 hK9 => ?_) ?_
          · simp only [List.getElem_toArray, List.getElem_cons_succ, List.getElem_cons_zero]
            first | gi_big_move | gi_big_op
            exact hK9 _ _ (hG2 _ _ _ _ G16)
          refine allReadyIn_want (i := 3) rfl (by kernel_rfl) (fun K9 hK9 => ?_) ?_
          · simp only [List.getElem_toArray, List.getElem_cons_succ, List.getElem_cons_zero]
            first | gi_big_move | gi_big_op
            exact hK9 _ _ (hG2 _ _ _ _ G20)
          refine allReadyIn_want (i := 5) rfl (by kernel_rfl) (fun K9 hK9 => ?_) ?_
          · simp only [List.getElem_toArray, List.getElem_cons_succ, List.getElem_cons_zero]
            first | gi_big_move | gi_big_op
            exact hK9 _ _ (hG2 _ _ _ _ G21)
          exact AllReadyIn.nil)
        have G28 : G 6 #[true, false, false, false, true, true, false, false, false] { tmps := #[.pointer (some ⟨h, 0, none⟩), .pointer (some ⟨s, 0, none⟩), .pointer (some ⟨s + 1, 0, none⟩), .pointer (some ⟨s + 1 + 1 + 1, 0, none⟩), .pointer (some ⟨s + 1 + 1 + 1 + 1, 0, none⟩), .pointer (some ⟨s + 1 + 1 + 1 + 1 + 1, 0, none⟩), .pointer (some ⟨bz, 0, none⟩), v 7, v 8, v 9, v 10, v 11, v 12, v 13, v 14, v 15, v 16, v 17, v 18, v 19, v 20, v 21, v 22, v 23, v 24, v 25, v 26, v 27, v 28, v 29, v 30, v 31, v 32, v 33, v 34, v 35, v 36, v 37, v 38, v 39, v 40, v 41, v 42, v 43, v 44, v 45, v 46, v 47, v 48, .pointer (some ⟨bz, 1, none⟩), v 50, v 51, v 52, .pointer (some ⟨bz, 1, none⟩), .int .i64 x.size, v 55, v 56, v 57, v 58, v 59, v 60, v 61, v 62, v 63, v 64, v 65, v 66, v 67, v 68, v 69, v 70, v 71, v 72, v 73, v 74, v 75, v 76, v 77, v 78, v 79, v 80, v 81, v 82, v 83, v 84, v 85, v 86, v 87, v 88, v 89, v 90, v 91, v 92, v 93, v 94, v 95, v 96, v 97, v 98, v 99, v 100, v 101, v 102, v 103, v 104, v 105, v 106, v 107, v 108, v 109, v 110, v 111, v 112, v 113, v 114, v 115, v 116, v 117, v 118, v 119], defers := [] } Wa := hG _ _ _ _ (by
          dsimp only
          refine wpAnyIn_ready (rs := [1, 2]) (by kernel_rfl) (List.cons_ne_nil _ _) ?_
          refine allReadyIn_want (i := 1) rfl (by kernel_rfl) (fun K9 hK9 => ?_) ?_
          · simp only [List.getElem_toArray, List.getElem_cons_succ, List.getElem_cons_zero]
            first | gi_big_move | gi_big_op
            exact hK9 _ _ (hG2 _ _ _ _ G18)
          refine allReadyIn_want (i := 2) rfl (by kernel_rfl) (fun K9 hK9 => ?_) ?_
          · simp only [List.getElem_toArray, List.getElem_cons_succ, List.getElem_cons_zero]
            first | gi_big_move | gi_big_op
            exact hK9 _ _ (hG2 _ _ _ _ G21)
          exact AllReadyIn.nil)
        have G29 : G 6 #[false, false, true, true, true, false, false, false, false] { tmps := #[.pointer (some ⟨h, 0, none⟩), .pointer (some ⟨s, 0, none⟩), .pointer (some ⟨s + 1, 0, none⟩), .pointer (some ⟨s + 1 + 1 + 1, 0, none⟩), .pointer (some ⟨s + 1 + 1 + 1 + 1, 0, none⟩), .pointer (some ⟨s + 1 + 1 + 1 + 1 + 1, 0, none⟩), .pointer (some ⟨bz, 0, none⟩), v 7, v 8, v 9, v 10, v 11, v 12, v 13, v 14, v 15, v 16, v 17, v 18, v 19, v 20, v 21, v 22, v 23, v 24, v 25, v 26, v 27, v 28, v 29, v 30, v 31, v 32, v 33, v 34, v 35, v 36, v 37, v 38, v 39, v 40, v 41, v 42, v 43, v 44, v 45, v 46, v 47, v 48, v 49, v 50, .pointer (some ⟨bz, 0, none⟩), .int .i64 x.at', .pointer (some ⟨bz, 1, none⟩), v 54, v 55, v 56, v 57, v 58, v 59, v 60, v 61, v 62, v 63, v 64, v 65, v 66, v 67, v 68, v 69, v 70, v 71, v 72, v 73, v 74, v 75, v 76, v 77, v 78, v 79, v 80, v 81, v 82, v 83, v 84, v 85, v 86, v 87, v 88, v 89, v 90, v 91, v 92, v 93, v 94, v 95, v 96, v 97, v 98, v 99, v 100, v 101, v 102, v 103, v 104, v 105, v 106, v 107, v 108, v 109, v 110, v 111, v 112, v 113, v 114, v 115, v 116, v 117, v 118, v 119], defers := [] } Wa := hG _ _ _ _ (by
          dsimp only
          refine wpAnyIn_ready (rs := [0, 5]) (by kernel_rfl) (List.cons_ne_nil _ _) ?_
          refine allReadyIn_want (i := 0) rfl (by kernel_rfl) (fun K9 hK9 => ?_) ?_
          · simp only [List.getElem_toArray, List.getElem_cons_succ, List.getElem_cons_zero]
            first | gi_big_move | gi_big_op
            exact hK9 _ _ (hG2 _ _ _ _ G20)
          refine allReadyIn_want (i := 5) rfl (by kernel_rfl) (fun K9 hK9 => ?_) ?_
          · simp only [List.getElem_toArray, List.getElem_cons_succ, List.getElem_cons_zero]
            first | gi_big_move | gi_big_op
            exact hK9 _ _ (hG2 _ _ _ _ G22)
          exact AllReadyIn.nil)
        have G30 : G 6 #[false, false, true, false, true, true, false, false, false] { tmps := #[.pointer (some ⟨h, 0, none⟩), .pointer (some ⟨s, 0, none⟩), .pointer (some ⟨s + 1, 0, none⟩), .pointer (some ⟨s + 1 + 1 + 1, 0, none⟩), .pointer (some ⟨s + 1 + 1 + 1 + 1, 0, none⟩), .pointer (some ⟨s + 1 + 1 + 1 + 1 + 1, 0, none⟩), .pointer (some ⟨bz, 0, none⟩), v 7, v 8, v 9, v 10, v 11, v 12, v 13, v 14, v 15, v 16, v 17, v 18, v 19, v 20, v 21, v 22, v 23, v 24, v 25, v 26, v 27, v 28, v 29, v 30, v 31, v 32, v 33, v 34, v 35, v 36, v 37, v 38, v 39, v 40, v 41, v 42, v 43, v 44, v 45, v 46, v 47, v 48, v 49, v 50, .pointer (some ⟨bz, 0, none⟩), v 52, .pointer (some ⟨bz, 1, none⟩), .int .i64 x.size, v 55, v 56, v 57, v 58, v 59, v 60, v 61, v 62, v 63, v 64, v 65, v 66, v 67, v 68, v 69, v 70, v 71, v 72, v 73, v 74, v 75, v 76, v 77, v 78, v 79, v 80, v 81, v 82, v 83, v 84, v 85, v 86, v 87, v 88, v 89, v 90, v 91, v 92, v 93, v 94, v 95, v 96, v 97, v 98, v 99, v 100, v 101, v 102, v 103, v 104, v 105, v 106, v 107, v 108, v 109, v 110, v 111, v 112, v 113, v 114, v 115, v 116, v 117, v 118, v 119], defers := [] } Wa := hG _ _ _ _ (by
          dsimp only
          refine wpAnyIn_ready (rs := [0, 3]) (by kernel_rfl) (List.cons_ne_nil _ _) ?_
          refine allReadyIn_want (i := 0) rfl (by kernel_rfl) (fun K9 hK9 => ?_) ?_
          · simp only [List.getElem_toArray, List.getElem_cons_succ, List.getElem_cons_zero]
            first | gi_big_move | gi_big_op
            exact hK9 _ _ (hG2 _ _ _ _ G21)
          refine allReadyIn_want (i := 3) rfl (by kernel_rfl) (fun K9 hK9 => ?_) ?_
          · simp only [List.getElem_toArray, List.getElem_cons_succ, List.getElem_cons_zero]
            first | gi_big_move | gi_big_op
            exact hK9 _ _ (hG2 _ _ _ _ G22)
          exact AllReadyIn.nil)
        have G31 : G 7 #[true, true, false, false, false, false, false, false, false] { tmps := #[.pointer (some ⟨h, 0, none⟩), .pointer (some ⟨s, 0, none⟩), .pointer (some ⟨s + 1, 0, none⟩), .pointer (some ⟨s + 1 + 1 + 1, 0, none⟩), .pointer (some ⟨s + 1 + 1 + 1 + 1, 0, none⟩), .pointer (some ⟨s + 1 + 1 + 1 + 1 + 1, 0, none⟩), .pointer (some ⟨bz, 0, none⟩), v 7, v 8, v 9, v 10, v 11, v 12, v 13, v 14, v 15, v 16, v 17, v 18, v 19, v 20, v 21, v 22, v 23, v 24, v 25, v 26, v 27, v 28, v 29, v 30, v 31, v 32, v 33, v 34, v 35, v 36, v 37, v 38, v 39, v 40, v 41, v 42, v 43, v 44, v 45, v 46, v 47, v 48, .pointer (some ⟨bz, 1, none⟩), .int .i64 x.size, v 51, v 52, v 53, v 54, v 55, v 56, v 57, v 58, v 59, v 60, v 61, v 62, v 63, v 64, v 65, v 66, v 67, v 68, v 69, v 70, v 71, v 72, v 73, v 74, v 75, v 76, v 77, v 78, v 79, v 80, v 81, v 82, v 83, v 84, v 85, v 86, v 87, v 88, v 89, v 90, v 91, v 92, v 93, v 94, v 95, v 96, v 97, v 98, v 99, v 100, v 101, v 102, v 103, v 104, v 105, v 106, v 107, v 108, v 109, v 110, v 111, v 112, v 113, v 114, v 115, v 116, v 117, v 118, v 119], defers := [] } Wa := hG _ _ _ _ (by
          dsimp only
          refine wpAnyIn_ready (rs := [2, 4, 7]) (by kernel_rfl) (List.cons_ne_nil _ _) ?_
          refine allReadyIn_want (i := 2) rfl (by kernel_rfl) (fun K9 hK9 => ?_) ?_
          · simp only [List.getElem_toArray, List.getElem_cons_succ, List.getElem_cons_zero]
            first | gi_big_move | gi_big_op
            exact hK9 _ _ (hG2 _ _ _ _ G23)
          refine allReadyIn_want (i := 4) rfl (by kernel_rfl) (fun K9 hK9 => ?_) ?_
          · simp only [List.getElem_toArray, List.getElem_cons_succ, List.getElem_cons_zero]
            first | gi_big_move | gi_big_op
            exact hK9 _ _ (hG2 _ _ _ _ G24)
          refine allReadyIn_want (i := 7) rfl (by kernel_rfl) (fun K9 hK9 => ?_) ?_
          · simp only [List.getElem_toArray, List.getElem_cons_succ, List.getElem_cons_zero]
            first | gi_big_move | gi_big_op
            exact hK9 _ _ (hG2 _ _ _ _ G25)
          exact AllReadyIn.nil)
        have G32 : G 7 #[true, false, true, false, false, false, false, false, false] { tmps := #[.pointer (some ⟨h, 0, none⟩), .pointer (some ⟨s, 0, none⟩), .pointer (some ⟨s + 1, 0, none⟩), .pointer (some ⟨s + 1 + 1 + 1, 0, none⟩), .pointer (some ⟨s + 1 + 1 + 1 + 1, 0, none⟩), .pointer (some ⟨s + 1 + 1 + 1 + 1 + 1, 0, none⟩), .pointer (some ⟨bz, 0, none⟩), v 7, v 8, v 9, v 10, v 11, v 12, v 13, v 14, v 15, v 16, v 17, v 18, v 19, v 20, v 21, v 22, v 23, v 24, v 25, v 26, v 27, v 28, v 29, v 30, v 31, v 32, v 33, v 34, v 35, v 36, v 37, v 38, v 39, v 40, v 41, v 42, v 43, v 44, v 45, v 46, v 47, v 48, .pointer (some ⟨bz, 1, none⟩), v 50, .pointer (some ⟨bz, 0, none⟩), v 52, v 53, v 54, v 55, v 56, v 57, v 58, v 59, v 60, v 61, v 62, v 63, v 64, v 65, v 66, v 67, v 68, v 69, v 70, v 71, v 72, v 73, v 74, v 75, v 76, v 77, v 78, v 79, v 80, v 81, v 82, v 83, v 84, v 85, v 86, v 87, v 88, v 89, v 90, v 91, v 92, v 93, v 94, v 95, v 96, v 97, v 98, v 99, v 100, v 101, v 102, v 103, v 104, v 105, v 106, v 107, v 108, v 109, v 110, v 111, v 112, v 113, v 114, v 115, v 116, v 117, v 118, v 119], defers := [] } Wa := hG _ _ _ _ (by
          dsimp only
          refine wpAnyIn_ready (rs := [1, 3, 4]) (by kernel_rfl) (List.cons_ne_nil _ _) ?_
          refine allReadyIn_want (i := 1) rfl (by kernel_rfl) (fun K9 hK9 => ?_) ?_
          · simp only [List.getElem_toArray, List.getElem_cons_succ, List.getElem_cons_zero]
            first | gi_big_move | gi_big_op
            exact hK9 _ _ (hG2 _ _ _ _ G23)
          refine allReadyIn_want (i := 3) rfl (by kernel_rfl) (fun K9 hK9 => ?_) ?_
          · simp only [List.getElem_toArray, List.getElem_cons_succ, List.getElem_cons_zero]
            first | gi_big_move | gi_big_op
            exact hK9 _ _ (hG2 _ _ _ _ G26)
          refine allReadyIn_want (i := 4) rfl (by kernel_rfl) (fun K9 hK9 => ?_) ?_
          · simp only [List.getElem_toArray, List.getElem_cons_succ, List.getElem_cons_zero]
            first | gi_big_move | gi_big_op
            exact hK9 _ _ (hG2 _ _ _ _ G27)
          exact AllReadyIn.nil)
        have G33 : G 7 #[true, false, false, false, true, false, false, false, false] { tmps := #[.pointer (some ⟨h, 0, none⟩), .pointer (some ⟨s, 0, none⟩), .pointer (some ⟨s + 1, 0, none⟩), .pointer (some ⟨s + 1 + 1 + 1, 0, none⟩), .pointer (some ⟨s + 1 + 1 + 1 + 1, 0, none⟩), .pointer (some ⟨s + 1 + 1 + 1 + 1 + 1, 0, none⟩), .pointer (some ⟨bz, 0, none⟩), v 7, v 8, v 9, v 10, v 11, v 12, v 13, v 14, v 15, v 16, v 17, v 18, v 19, v 20, v 21, v 22, v 23, v 24, v 25, v 26, v 27, v 28, v 29, v 30, v 31, v 32, v 33, v 34, v 35, v 36, v 37, v 38, v 39, v 40, v 41, v 42, v 43, v 44, v 45, v 46, v 47, v 48, .pointer (some ⟨bz, 1, none⟩), v 50, v 51, v 52, .pointer (some ⟨bz, 1, none⟩), v 54, v 55, v 56, v 57, v 58, v 59, v 60, v 61, v 62, v 63, v 64, v 65, v 66, v 67, v 68, v 69, v 70, v 71, v 72, v 73, v 74, v 75, v 76, v 77, v 78, v 79, v 80, v 81, v 82, v 83, v 84, v 85, v 86, v 87, v 88, v 89, v 90, v 91, v 92, v 93, v 94, v 95, v 96, v 97, v 98, v 99, v 100, v 101, v 102, v 103, v 104, v 105, v 106, v 107, v 108, v 109, v 110, v 111, v 112, v 113, v 114, v 115, v 116, v 117, v 118, v 119], defers := [] } Wa := hG _ _ _ _ (by
          dsimp only
          refine wpAnyIn_ready (rs := [1, 2, 5]) (by kernel_rfl) (List.cons_ne_nil _ _) ?_
          refine allReadyIn_want (i := 1) rfl (by kernel_rfl) (fun K9 hK9 => ?_) ?_
          · simp only [List.getElem_toArray, List.getElem_cons_succ, List.getElem_cons_zero]
            first | gi_big_move | gi_big_op
            exact hK9 _ _ (hG2 _ _ _ _ G24)
          refine allReadyIn_want (i := 2) rfl (by kernel_rfl) (fun K9 hK9 => ?_) ?_
          · simp only [List.getElem_toArray, List.getElem_cons_succ, List.getElem_cons_zero]
            first | gi_big_move | gi_big_op
            exact hK9 _ _ (hG2 _ _ _ _ G27)
          refine allReadyIn_want (i := 5) rfl (by kernel_rfl) (fun K9 hK9 => ?_) ?_
          · simp only [List.getElem_toArray, List.getElem_cons_succ, List.getElem_cons_zero]
            first | gi_big_move | gi_big_op
            exact hK9 _ _ (hG2 _ _ _ _ G28)
          exact AllReadyIn.nil)
        have G34 : G 7 #[false, false, true, true, false, false, false, false, false] { tmps := #[.pointer (some ⟨h, 0, none⟩), .pointer (some ⟨s, 0, none⟩), .pointer (some ⟨s + 1, 0, none⟩), .pointer (some ⟨s + 1 + 1 + 1, 0, none⟩), .pointer (some ⟨s + 1 + 1 + 1 + 1, 0, none⟩), .pointer (some ⟨s + 1 + 1 + 1 + 1 + 1, 0, none⟩), .pointer (some ⟨bz, 0, none⟩), v 7, v 8, v 9, v 10, v 11, v 12, v 13, v 14, v 15, v 16, v 17, v 18, v 19, v 20, v 21, v 22, v 23, v 24, v 25, v 26, v 27, v 28, v 29, v 30, v 31, v 32, v 33, v 34, v 35, v 36, v 37, v 38, v 39, v 40, v 41, v 42, v 43, v 44, v 45, v 46, v 47, v 48, v 49, v 50, .pointer (some ⟨bz, 0, none⟩), .int .i64 x.at', v 53, v 54, v 55, v 56, v 57, v 58, v 59, v 60, v 61, v 62, v 63, v 64, v 65, v 66, v 67, v 68, v 69, v 70, v 71, v 72, v 73, v 74, v 75, v 76, v 77, v 78, v 79, v 80, v 81, v 82, v 83, v 84, v 85, v 86, v 87, v 88, v 89, v 90, v 91, v 92, v 93, v 94, v 95, v 96, v 97, v 98, v 99, v 100, v 101, v 102, v 103, v 104, v 105, v 106, v 107, v 108, v 109, v 110, v 111, v 112, v 113, v 114, v 115, v 116, v 117, v 118, v 119], defers := [] } Wa := hG _ _ _ _ (by
          dsimp only
          refine wpAnyIn_ready (rs := [0, 4]) (by kernel_rfl) (List.cons_ne_nil _ _) ?_
          refine allReadyIn_want (i := 0) rfl (by kernel_rfl) (fun K9 hK9 => ?_) ?_
          · simp only [List.getElem_toArray, List.getElem_cons_succ, List.getElem_cons_zero]
            first | gi_big_move | gi_big_op
            exact hK9 _ _ (hG2 _ _ _ _ G26)
          refine allReadyIn_want (i := 4) rfl (by kernel_rfl) (fun K9 hK9 => ?_) ?_
          · simp only [List.getElem_toArray, List.getElem_cons_succ, List.getElem_cons_zero]
            first | gi_big_move | gi_big_op
            exact hK9 _ _ (hG2 _ _ _ _ G29)
          exact AllReadyIn.nil)
        have G35 : G 7 #[false, false, true, false, true, false, false, false, false] { tmps := #[.pointer (some ⟨h, 0, none⟩), .pointer (some ⟨s, 0, none⟩), .pointer (some ⟨s + 1, 0, none⟩), .pointer (some ⟨s + 1 + 1 + 1, 0, none⟩), .pointer (some ⟨s + 1 + 1 + 1 + 1, 0, none⟩), .pointer (some ⟨s + 1 + 1 + 1 + 1 + 1, 0, none⟩), .pointer (some ⟨bz, 0, none⟩), v 7, v 8, v 9, v 10, v 11, v 12, v 13, v 14, v 15, v 16, v 17, v 18, v 19, v 20, v 21, v 22, v 23, v 24, v 25, v 26, v 27, v 28, v 29, v 30, v 31, v 32, v 33, v 34, v 35, v 36, v 37, v 38, v 39, v 40, v 41, v 42, v 43, v 44, v 45, v 46, v 47, v 48, v 49, v 50, .pointer (some ⟨bz, 0, none⟩), v 52, .pointer (some ⟨bz, 1, none⟩), v 54, v 55, v 56, v 57, v 58, v 59, v 60, v 61, v 62, v 63, v 64, v 65, v 66, v 67, v 68, v 69, v 70, v 71, v 72, v 73, v 74, v 75, v 76, v 77, v 78, v 79, v 80, v 81, v 82, v 83, v 84, v 85, v 86, v 87, v 88, v 89, v 90, v 91, v 92, v 93, v 94, v 95, v 96, v 97, v 98, v 99, v 100, v 101, v 102, v 103, v 104, v 105, v 106, v 107, v 108, v 109, v 110, v 111, v 112, v 113, v 114, v 115, v 116, v 117, v 118, v 119], defers := [] } Wa := hG _ _ _ _ (by
          dsimp only
          refine wpAnyIn_ready (rs := [0, 3, 5]) (by kernel_rfl) (List.cons_ne_nil _ _) ?_
          refine allReadyIn_want (i := 0) rfl (by kernel_rfl) (fun K9 hK9 => ?_) ?_
          · simp only [List.getElem_toArray, List.getElem_cons_succ, List.getElem_cons_zero]
            first | gi_big_move | gi_big_op
            exact hK9 _ _ (hG2 _ _ _ _ G27)
          refine allReadyIn_want (i := 3) rfl (by kernel_rfl) (fun K9 hK9 => ?_) ?_
          · simp only [List.getElem_toArray, List.getElem_cons_succ, List.getElem_cons_zero]
            first | gi_big_move | gi_big_op
            exact hK9 _ _ (hG2 _ _ _ _ G29)
          refine allReadyIn_want (i := 5) rfl (by kernel_rfl) (fun K9 hK9 => ?_) ?_
          · simp only [List.getElem_toArray, List.getElem_cons_succ, List.getElem_cons_zero]
            first | gi_big_move | gi_big_op
            exact hK9 _ _ (hG2 _ _ _ _ G30)
          exact AllReadyIn.nil)
        have G36 : G 7 #[false, false, false, false, true, true, false, false, false] { tmps := #[.pointer (some ⟨h, 0, none⟩), .pointer (some ⟨s, 0, none⟩), .pointer (some ⟨s + 1, 0, none⟩), .pointer (some ⟨s + 1 + 1 + 1, 0, none⟩), .pointer (some ⟨s + 1 + 1 + 1 + 1, 0, none⟩), .pointer (some ⟨s + 1 + 1 + 1 + 1 + 1, 0, none⟩), .pointer (some ⟨bz, 0, none⟩), v 7, v 8, v 9, v 10, v 11, v 12, v 13, v 14, v 15, v 16, v 17, v 18, v 19, v 20, v 21, v 22, v 23, v 24, v 25, v 26, v 27, v 28, v 29, v 30, v 31, v 32, v 33, v 34, v 35, v 36, v 37, v 38, v 39, v 40, v 41, v 42, v 43, v 44, v 45, v 46, v 47, v 48, v 49, v 50, v 51, v 52, .pointer (some ⟨bz, 1, none⟩), .int .i64 x.size, v 55, v 56, v 57, v 58, v 59, v 60, v 61, v 62, v 63, v 64, v 65, v 66, v 67, v 68, v 69, v 70, v 71, v 72, v 73, v 74, v 75, v 76, v 77, v 78, v 79, v 80, v 81, v 82, v 83, v 84, v 85, v 86, v 87, v 88, v 89, v 90, v 91, v 92, v 93, v 94, v 95, v 96, v 97, v 98, v 99, v 100, v 101, v 102, v 103, v 104, v 105, v 106, v 107, v 108, v 109, v 110, v 111, v 112, v 113, v 114, v 115, v 116, v 117, v 118, v 119], defers := [] } Wa := hG _ _ _ _ (by
          dsimp only
          refine wpAnyIn_ready (rs := [0, 2]) (by kernel_rfl) (List.cons_ne_nil _ _) ?_
          refine allReadyIn_want (i := 0) rfl (by kernel_rfl) (fun K9 hK9 => ?_) ?_
          · simp only [List.getElem_toArray, List.getElem_cons_succ, List.getElem_cons_zero]
            first | gi_big_move | gi_big_op
            exact hK9 _ _ (hG2 _ _ _ _ G28)
          refine allReadyIn_want (i := 2) rfl (by kernel_rfl) (fun K9 hK9 => ?_) ?_
          · simp only [List.getElem_toArray, List.getElem_cons_succ, List.getElem_cons_zero]
            first | gi_big_move | gi_big_op
            exact hK9 _ _ (hG2 _ _ _ _ G30)
          exact AllReadyIn.nil)
        have G37 : G 8 #[true, false, false, false, false, false, false, false, false] { tmps := #[.pointer (some ⟨h, 0, none⟩), .pointer (some ⟨s, 0, none⟩), .pointer (some ⟨s + 1, 0, none⟩), .pointer (some ⟨s + 1 + 1 + 1, 0, none⟩), .pointer (some ⟨s + 1 + 1 + 1 + 1, 0, none⟩), .pointer (some ⟨s + 1 + 1 + 1 + 1 + 1, 0, none⟩), .pointer (some ⟨bz, 0, none⟩), v 7, v 8, v 9, v 10, v 11, v 12, v 13, v 14, v 15, v 16, v 17, v 18, v 19, v 20, v 21, v 22, v 23, v 24, v 25, v 26, v 27, v 28, v 29, v 30, v 31, v 32, v 33, v 34, v 35, v 36, v 37, v 38, v 39, v 40, v 41, v 42, v 43, v 44, v 45, v 46, v 47, v 48, .pointer (some ⟨bz, 1, none⟩), v 50, v 51, v 52, v 53, v 54, v 55, v 56, v 57, v 58, v 59, v 60, v 61, v 62, v 63, v 64, v 65, v 66, v 67, v 68, v 69, v 70, v 71, v 72, v 73, v 74, v 75, v 76, v 77, v 78, v 79, v 80, v 81, v 82, v 83, v 84, v 85, v 86, v 87, v 88, v 89, v 90, v 91, v 92, v 93, v 94, v 95, v 96, v 97, v 98, v 99, v 100, v 101, v 102, v 103, v 104, v 105, v 106, v 107, v 108, v 109, v 110, v 111, v 112, v 113, v 114, v 115, v 116, v 117, v 118, v 119], defers := [] } Wa := hG _ _ _ _ (by
          dsimp only
          refine wpAnyIn_ready (rs := [1, 2, 4]) (by kernel_rfl) (List.cons_ne_nil _ _) ?_
          refine allReadyIn_want (i := 1) rfl (by kernel_rfl) (fun K9 hK9 => ?_) ?_
          · simp only [List.getElem_toArray, List.getElem_cons_succ, List.getElem_cons_zero]
            first | gi_big_move | gi_big_op
            exact hK9 _ _ (hG2 _ _ _ _ G31)
          refine allReadyIn_want (i := 2) rfl (by kernel_rfl) (fun K9 hK9 => ?_) ?_
          · simp only [List.getElem_toArray, List.getElem_cons_succ, List.getElem_cons_zero]
            first | gi_big_move | gi_big_op
            exact hK9 _ _ (hG2 _ _ _ _ G32)
          refine allReadyIn_want (i := 4) rfl (by kernel_rfl) (fun K9 hK9 => ?_) ?_
          · simp only [List.getElem_toArray, List.getElem_cons_succ, List.getElem_cons_zero]
            first | gi_big_move | gi_big_op
            exact hK9 _ _ (hG2 _ _ _ _ G33)
          exact AllReadyIn.nil)
        have G38 : G 8 #[false, false, true, false, false, false, false, false, false] { tmps := #[.pointer (some ⟨h, 0, none⟩), .pointer (some ⟨s, 0, none⟩), .pointer (some ⟨s + 1, 0, none⟩), .pointer (some ⟨s + 1 + 1 + 1, 0, none⟩), .pointer (some ⟨s + 1 + 1 + 1 + 1, 0, none⟩), .pointer (some ⟨s + 1 + 1 + 1 + 1 + 1, 0, none⟩), .pointer (some ⟨bz, 0, none⟩), v 7, v 8, v 9, v 10, v 11, v 12, v 13, v 14, v 15, v 16, v 17, v 18, v 19, v 20, v 21, v 22, v 23, v 24, v 25, v 26, v 27, v 28, v 29, v 30, v 31, v 32, v 33, v 34, v 35, v 36, v 37, v 38, v 39, v 40, v 41, v 42, v 43, v 44, v 45, v 46, v 47, v 48, v 49, v 50, .pointer (some ⟨bz, 0, none⟩), v 52, v 53, v 54, v 55, v 56, v 57, v 58, v 59, v 60, v 61, v 62, v 63, v 64, v 65, v 66, v 67, v 68, v 69, v 70, v 71, v 72, v 73, v 74, v 75, v 76, v 77, v 78, v 79, v 80, v 81, v 82, v 83, v 84, v 85, v 86, v 87, v 88, v 89, v 90, v 91, v 92, v 93, v 94, v 95, v 96, v 97, v 98, v 99, v 100, v 101, v 102, v 103, v 104, v 105, v 106, v 107, v 108, v 109, v 110, v 111, v 112, v 113, v 114, v 115, v 116, v 117, v 118, v 119], defers := [] } Wa := hG _ _ _ _ (by
          dsimp only
          refine wpAnyIn_ready (rs := [0, 3, 4]) (by kernel_rfl) (List.cons_ne_nil _ _) ?_
          refine allReadyIn_want (i := 0) rfl (by kernel_rfl) (fun K9 hK9 => ?_) ?_
          · simp only [List.getElem_toArray, List.getElem_cons_succ, List.getElem_cons_zero]
            first | gi_big_move | gi_big_op
            exact hK9 _ _ (hG2 _ _ _ _ G32)
          refine allReadyIn_want (i := 3) rfl (by kernel_rfl) (fun K9 hK9 => ?_) ?_
          · simp only [List.getElem_toArray, List.getElem_cons_succ, List.getElem_cons_zero]
            first | gi_big_move | gi_big_op
            exact hK9 _ _ (hG2 _ _ _ _ G34)
          refine allReadyIn_want (i := 4) rfl (by kernel_rfl) (fun K9 hK9 => ?_) ?_
          · simp only [List.getElem_toArray, List.getElem_cons_succ, List.getElem_cons_zero]
            first | gi_big_move | gi_big_op
            exact hK9 _ _ (hG2 _ _ _ _ G35)
          exact AllReadyIn.nil)
        have G39 : G 8 #[false, false, false, false, true, false, false, false, false] { tmps := #[.pointer (some ⟨h, 0, none⟩), .pointer (some ⟨s, 0, none⟩), .pointer (some ⟨s + 1, 0, none⟩), .pointer (some ⟨s + 1 + 1 + 1, 0, none⟩), .pointer (some ⟨s + 1 + 1 + 1 + 1, 0, none⟩), .pointer (some ⟨s + 1 + 1 + 1 + 1 + 1, 0, none⟩), .pointer (some ⟨bz, 0, none⟩), v 7, v 8, v 9, v 10, v 11, v 12, v 13, v 14, v 15, v 16, v 17, v 18, v 19, v 20, v 21, v 22, v 23, v 24, v 25, v 26, v 27, v 28, v 29, v 30, v 31, v 32, v 33, v 34, v 35, v 36, v 37, v 38, v 39, v 40, v 41, v 42, v 43, v 44, v 45, v 46, v 47, v 48, v 49, v 50, v 51, v 52, .pointer (some ⟨bz, 1, none⟩), v 54, v 55, v 56, v 57, v 58, v 59, v 60, v 61, v 62, v 63, v 64, v 65, v 66, v 67, v 68, v 69, v 70, v 71, v 72, v 73, v 74, v 75, v 76, v 77, v 78, v 79, v 80, v 81, v 82, v 83, v 84, v 85, v 86, v 87, v 88, v 89, v 90, v 91, v 92, v 93, v 94, v 95, v 96, v 97, v 98, v 99, v 100, v 101, v 102, v 103, v 104, v 105, v 106, v 107, v 108, v 109, v 110, v 111, v 112, v 113, v 114, v 115, v 116, v 117, v 118, v 119], defers := [] } Wa := hG _ _ _ _ (by
          dsimp only
          refine wpAnyIn_ready (rs := [0, 2, 5]) (by kernel_rfl) (List.cons_ne_nil _ _) ?_
          refine allReadyIn_want (i := 0) rfl (by kernel_rfl) (fun K9 hK9 => ?_) ?_
          · simp only [List.getElem_toArray, List.getElem_cons_succ, List.getElem_cons_zero]
            first | gi_big_move | gi_big_op
            exact hK9 _ _ (hG2 _ _ _ _ G33)
          refine allReadyIn_want (i := 2) rfl (by kernel_rfl) (fun K9 hK9 => ?_) ?_
          · simp only [List.getElem_toArray, List.getElem_cons_succ, List.getElem_cons_zero]
            first | gi_big_move | gi_big_op
            exact hK9 _ _ (hG2 _ _ _ _ G35)
          refine allReadyIn_want (i := 5) rfl (by kernel_rfl) (fun K9 hK9 => ?_) ?_
          · simp only [List.getElem_toArray, List.getElem_cons_succ, List.getElem_cons_zero]
            first | gi_big_move | gi_big_op
            exact hK9 _ _ (hG2 _ _ _ _ G36)
          exact AllReadyIn.nil)
        have G40 : G 9 #[false, false, false, false, false, false, false, false, false] { tmps := #[.pointer (some ⟨h, 0, none⟩), .pointer (some ⟨s, 0, none⟩), .pointer (some ⟨s + 1, 0, none⟩), .pointer (some ⟨s + 1 + 1 + 1, 0, none⟩), .pointer (some ⟨s + 1 + 1 + 1 + 1, 0, none⟩), .pointer (some ⟨s + 1 + 1 + 1 + 1 + 1, 0, none⟩), .pointer (some ⟨bz, 0, none⟩), v 7, v 8, v 9, v 10, v 11, v 12, v 13, v 14, v 15, v 16, v 17, v 18, v 19, v 20, v 21, v 22, v 23, v 24, v 25, v 26, v 27, v 28, v 29, v 30, v 31, v 32, v 33, v 34, v 35, v 36, v 37, v 38, v 39, v 40, v 41, v 42, v 43, v 44, v 45, v 46, v 47, v 48, v 49, v 50, v 51, v 52, v 53, v 54, v 55, v 56, v 57, v 58, v 59, v 60, v 61, v 62, v 63, v 64, v 65, v 66, v 67, v 68, v 69, v 70, v 71, v 72, v 73, v 74, v 75, v 76, v 77, v 78, v 79, v 80, v 81, v 82, v 83, v 84, v 85, v 86, v 87, v 88, v 89, v 90, v 91, v 92, v 93, v 94, v 95, v 96, v 97, v 98, v 99, v 100, v 101, v 102, v 103, v 104, v 105, v 106, v 107, v 108, v 109, v 110, v 111, v 112, v 113, v 114, v 115, v 116, v 117, v 118, v 119], defers := [] } Wa := hG _ _ _ _ (by
          dsimp only
          refine wpAnyIn_ready (rs := [0, 2, 4]) (by kernel_rfl) (List.cons_ne_nil _ _) ?_
          refine allReadyIn_want (i := 0) rfl (by kernel_rfl) (fun K9 hK9 => ?_) ?_
          · simp only [List.getElem_toArray, List.getElem_cons_succ, List.getElem_cons_zero]
            first | gi_big_move | gi_big_op
            exact hK9 _ _ (hG2 _ _ _ _ G37)
          refine allReadyIn_want (i := 2) rfl (by kernel_rfl) (fun K9 hK9 => ?_) ?_
          · simp only [List.getElem_toArray, List.getElem_cons_succ, List.getElem_cons_zero]
            first | gi_big_move | gi_big_op
            exact hK9 _ _ (hG2 _ _ _ _ G38)
          refine allReadyIn_want (i := 4) rfl (by kernel_rfl) (fun K9 hK9 => ?_) ?_
          · simp only [List.getElem_toArray, List.getElem_cons_succ, List.getElem_cons_zero]
            first | gi_big_move | gi_big_op
            exact hK9 _ _ (hG2 _ _ _ _ G39)
          exact AllReadyIn.nil)
        exact G40
      rintro _ a9 _ ⟨rfl, hw⟩
      obtain rfl := hw.symm
      clear hw
      have o9 : Only [g, s + 1 + 1, s + 1 + 1 + 1 + 1, s + 1 + 1 + 1 + 1 + 1] W Wc := (HO3.out.mono (by simp)).trans OO.out (by simp)
      have e9 : Blk Wc (s + 1 + 1 + 1 + 1 + 1) 3 #[.int .i64 (evL (pre ++ [x]) : Nat)] := by
        rw [evL_snoc, show ((x.at' + x.size : Nat) : Int) = (x.at' : Int) + x.size by omega]
        exact KC.out
      show KeepsFrom w1.heap.size W Wc ∧ KK h g gb cap mb N m (s + 1 + 1 + 1 + 1 + 1 + 1) W Wc ∧ (pre ++ [x] <+: B ∧ _)
      refine ⟨kf_only o9 (by simp; omega), ⟨o9.size, fun _ => HM3.out.only OO.out (by simp; omega) (by simp; omega) (by simp; omega), o9.block _ (by omega) (by simp; omega)⟩, hlen, H1.out.trans o9 (by simp), HM3.out.only OO.out (by simp; omega) (by simp; omega) (by simp; omega), H3.out.only o9 (by simp; omega), H4.out.only o9 (by simp; omega), ?_, e9, HF3.out.only OO.out (by simp)⟩
      rw [avL_snoc]
      exact KB.out
    clear hK1
    refine region_quiet_g (C := fun w' => ∃ q : Rd g (fun W' => Me W' h g gb cap mb N m) Z, w' = q.val) (by kernel_rfl) (by kernel_rfl) (by kernel_rfl) ⟨⟨_, hZ ▸ Only.refl _ _, h2.only0 ((Only.refl [] W).drew)⟩, rfl⟩ ?_
    by_cases hk : x.k = 1
    · have e1 : (x.k == 1) = true := by simp [hk]
      rw [e1] at gz2 hlk
      simp only [Bool.not_true, Bool.not_false] at hlk
      repeat (gi_big_quiet_step (first | (gi_at_call 57; exact quiet_rd (CallsIn.inRound l (callsIn_wide.2 (HGET.out _))))))
      refine wpQuietIn_nil ?_
      rintro _ ⟨q, rfl⟩
      have o2 : Only [g] W q.val := ((Only.refl [g] W).drew).trans (hZ ▸ q.ok) (by simp)
      have M2 := q.me
      generalize q.val = W2 at o2 M2 ⊢
      clear hlk g0 g4 gh gz0 gz2
      gi_wp2
      exact (TK_intro rfl).elim fun v e => e ▸ R10 v W2 o2 M2
    · have e1 : (x.k == 1) = false := by simp [hk]
      rw [e1] at gz2 hlk
      simp only [Bool.not_true, Bool.not_false] at hlk
      repeat (gi_big_quiet_step (first | (gi_at_call 57; exact quiet_rd (CallsIn.inRound l (callsIn_wide.2 (HGET.out _))))))
      refine wpQuietIn_nil ?_
      rintro _ ⟨q, rfl⟩
      have o2 : Only [g] W q.val := ((Only.refl [g] W).drew).trans (hZ ▸ q.ok) (by simp)
      have M2 := q.me
      generalize q.val = W2 at o2 M2 ⊢
      clear hlk g0 g4 gh gz0 gz2
      gi_wp2
      exact (TK_intro rfl).elim fun v e => e ▸ R10 v W2 o2 M2
  case done =>
    rintro D ys V1 hDa hys ⟨h0, h1, h2, h3, h4, h5, h6, h7⟩ hK1
    obtain rfl := hys.symm
    refine hKc _ _ ?_
    clear hKc hys
    dsimp only
    have hI := HH.out.inv
    have hNs := hI.size
    have hne := HH.out.ne
    have hN : 256 ≤ N := hNs.1
    have hW := h1.size
    have KD := Lib.hid hK1
    have DA := Lib.hid hDa
    have ST0 : Ck B h g gb cap mb N s m V1 0 [] V1 := ⟨Only.refl _ _, h2, fr B, h7, fun a => by
      rw [mem_fr]
      constructor
      · rintro ⟨b, hb, e1, e2⟩
        exact ⟨⟨b, hb, e2, e1, Nat.zero_le _⟩, by simp⟩
      · rintro ⟨⟨b, hb, e2, e1, _⟩, _⟩
        exact ⟨b, hb, e1, e2⟩⟩
    have K0 : Hid (∀ W, Only [g, s + 1 + 1] V1 W → W.cell? ⟨s, 0, none⟩ = some (.pointer (some ⟨h, 0, none⟩)) ∧ W.cell? ⟨s + 1 + 1 + 1, 0, none⟩ = some (.map (some (s + 1 + 1)))) := Lib.hid fun W o =>
      ⟨by simpa using (h3.only o (by simp; omega)).cell 0, by simpa using (h4.only o (by simp; omega)).cell 0⟩
    have hL0 : ∀ c, ∀ a ∈ L c, 112 ≤ a ∧ a < 65536 ∧ a + 16 ≤ N ∧ a % 8 = 0 := fun c a ha => by
      obtain ⟨b, hb, e1, e2, e3⟩ := (hI.mem c a).1 ha
      have := Tile.mem hI.tile b hb
      omega
    have ST0 := Lib.hid ST0
    have H0 := Lib.hid h0
    have H1 := Lib.hid h1
    have H3 := Lib.hid h3
    have H5 := Lib.hid h5
    have H6 := Lib.hid h6
    have HD1 := Lib.hid D1
    have HIN := Lib.hid hI
    have HL0 := Lib.hid hL0
    have HO0 := Lib.hid O0
    clear hK1 hDa h0 h1 h2 h3 h4 h5 h6 h7 hL0 hI D0 D1 D2 D3 D4 D5 ST O0 M1 b1
    go_wp2
    go_loopw [56] (fun vc wr => ∃ cc : Nat, cc ≤ 26 ∧ vc = .int .i64 (cc : Nat) ∧ Hid (Ck B h g gb cap mb N s m V1 cc [] wr)) (fun vc _ => 26 - (intOf vc).toNat)
    case atStart => exact ⟨0, by omega, rfl, ST0⟩
    case round =>
      obtain ⟨cc, hcc, rfl, hst⟩ := hrel
      by_cases hlt2 : cc < 26
      · have q1 : (cc : Int) < 26 := by omega
        obtain ⟨ks, kf⟩ := K0.out wr hst.out.only
        go_wp2_with (first
          | (go_at_call 59; refine (list_any h cc _).mono ?_; rintro e w2 ⟨xb, yb, rfl, o2, bx, hxb, hyb⟩))
        obtain ⟨n0, hn0⟩ : ∃ n0, (L cc).headD 0 = n0 := ⟨_, rfl⟩
        have hroot : m (4 + 4 * cc) = n0 := hn0 ▸ HIN.out.root cc hlt2
        obtain ⟨t, ht⟩ : ∃ t : Bool, decide (n0 ≠ 0) = t := ⟨_, rfl⟩
        have e1 : ((n0 : Int) == 0) = !t := by rw [← ht]; by_cases e : n0 = 0 <;> simp [e]
        have e3 : ((n0 : Int) != 0) = t := by rw [← ht]; by_cases e : n0 = 0 <;> simp [e]
        have e2 : (bits .and .i64 (((m 0 : Nat) : Int) / 2 ^ cc) 1 == 1) = t := by
          rw [shr_bit (m 0) cc HIN.out.low, HIN.out.bit cc hlt2, ← ht]
          have : L cc = [] ↔ n0 = 0 := by
            rw [← hn0]
            cases hl : L cc with
            | nil => simp
            | cons a q =>
              have := (HL0.out cc a (by rw [hl]; simp)).1
              simp; omega
          by_cases e : L cc = [] <;> simp [e, this.1, mt this.2]
        have oR := hst.out.only
        have M2 := hst.out.me.only0 o2
        have HM2 := Lib.hid M2
        have k2 : Hid (∀ W, Only [g] w2 W → W.cell? ⟨s, 0, none⟩ = some (.pointer (some ⟨h, 0, none⟩)) ∧ W.cell? ⟨s + 1 + 1 + 1, 0, none⟩ = some (.map (some (s + 1 + 1)))) := Lib.hid fun W o => K0.out W ((oR.trans0 o2).trans o (by simp))
        have HB2 : Hid (∀ W, Only [g] w2 W → Bx W xb yb h cc) := Lib.hid fun W o => bx.only o (by have := oR.size; simp; omega) (by have := oR.size; simp; omega)
        have HF : Hid (∀ W, Only [g] w2 W ∧ Me W h g gb cap mb N m → Calls Tryd.prog 82 #[.pointer (some ⟨xb, 0, none⟩), .pointer (some ⟨yb, 0, none⟩)] W fun e w' => e = .returned (.int .i64 n0) ∧ Only [g] w2 w' ∧ Me w' h g gb cap mb N m) := Lib.hid fun W hW => by
          have := first_any hW.2 (HB2.out W hW.1) hlt2 hN
          rw [hroot] at this
          exact this.mono fun e w' q => ⟨q.1, hW.1.trans q.2.1 (by simp), q.2.2⟩
        have HG0 : Hid (∀ p, p < N → p % 4 = 0 → ∀ W, Only [g] w2 W ∧ Me W h g gb cap mb N m → Calls Tryd.prog 57 #[.pointer (some ⟨h, 0, none⟩), .int .i64 (p : Nat)] W fun e w' => e = .returned (.int .i64 (m p)) ∧ Only [g] w2 w' ∧ Me w' h g gb cap mb N m) := Lib.hid fun p hp h4 W hW => (get_any hW.2 hp h4).mono fun e w' q => ⟨q.1, hW.1.trans q.2.1 (by simp), q.2.2⟩
        have HG00 : Hid (∀ W, Only [g] w2 W ∧ Me W h g gb cap mb N m → Calls Tryd.prog 57 #[.pointer (some ⟨h, 0, none⟩), .int .i64 0] W fun e w' => e = .returned (.int .i64 (m 0)) ∧ Only [g] w2 w' ∧ Me w' h g gb cap mb N m) := Lib.hid fun W hW => HG0.out 0 (by omega) (by omega) W hW
        have OD : Hid (Only [g] w2 w2.drew ∧ Me w2.drew h g gb cap mb N m) := Lib.hid ⟨(Only.refl [g] w2).drew, M2.only0 ((Only.refl [] w2).drew)⟩
        have kx := (k2.out _ OD.out.1).1
        clear M2 bx hroot
        go_region_held3 (fun W => W.cell? ⟨s, 0, none⟩ = some (.pointer (some ⟨h, 0, none⟩))) (first | go_keep | exact kx)
          (first
            | (go_at_call 82; (with_reducible refine (HF.out _ OD.out).mono ?_); rintro e w4 ⟨rfl, hod⟩; have OD := Lib.hid hod; have kx := (k2.out _ OD.out.1).1; clear hod)
            | (go_at_call 57; (with_reducible refine (HG00.out _ OD.out).mono ?_); rintro e w4 ⟨rfl, hod⟩; have OD := Lib.hid hod; have kx := (k2.out _ OD.out.1).1; clear hod))
        go_wp2_with (first
          | (go_at_call 82; (with_reducible refine (HF.out _ OD.out).mono ?_); rintro e w5 ⟨rfl, hod⟩; have OE := Lib.hid hod; clear hod))
        have hbx := oR.size
        obtain ⟨F0, hF0, hFi⟩ := hst.out.ex
        have CK0 : Hid (Ck B h g gb cap mb N s m V1 cc [] w5) := Lib.hid ⟨(oR.trans0 o2).trans OE.out.1 (by simp), OE.out.2, F0, (hF0.only o2 (by simp)).only OE.out.1 (by simp; omega), hFi⟩
        clear hF0 hFi hst o2 OD kx ks kf HB2 HF HG0 HG00 k2 e1 e2 e3 ht
        go_loopw [10, 11] (fun v10 v11 wi => ∃ pre rest : List Nat, L cc = pre ++ rest ∧ v10 = .int .i64 (lastD pre 0 : Nat) ∧ v11 = .int .i64 (rest.headD 0 : Nat) ∧ Hid (Ck B h g gb cap mb N s m V1 cc pre wi)) (fun _ v11 _ => (L cc).length - (L cc).idxOf (intOf v11).toNat)
        case atStart => exact ⟨[], L cc, rfl, rfl, by rw [hn0], CK0⟩
        case round =>
          obtain ⟨pre, rest, hL, rfl, rfl, hk⟩ := hrel
          obtain ⟨ks, kf⟩ := K0.out wr hk.out.only
          rcases rest with _ | ⟨a, rest⟩
          · have hz : ((([] : List Nat).headD 0 : Nat) : Int) = 0 := rfl
            rw [hz]
            go_wp2
            go_roundw
            case rel => exact ⟨cc + 1, by omega, by go_num, Lib.hid (hk.out.next HIN.out (by simpa using hL))⟩
            case measure => first | (simp [intOf]; done) | (simp [intOf]; omega)
          · have ha := HL0.out cc a (by rw [hL]; simp)
            have hz : (((a :: rest).headD 0 : Nat) : Int) = (a : Int) := rfl
            have hz2 : ((a : Int) == 0) = false := by simp; omega
            rw [hz]
            have oW := hk.out.only
            have hlk := hk.out.look HIN.out hL
            have hlink := HIN.out.link cc hlt2
            rw [hL] at hlink
            obtain ⟨hm12, hm8⟩ := hlink.mid
            have HG : Hid (∀ p, p < N → p % 4 = 0 → ∀ W, Me W h g gb cap mb N m → Calls Tryd.prog 57 #[.pointer (some ⟨h, 0, none⟩), .int .i64 (p : Nat)] W fun e w' => e = .returned (.int .i64 (m p)) ∧ Only [g] W w' ∧ Me w' h g gb cap mb N m) := Lib.hid fun p hp h4 W hW => get_any hW hp h4
            have HG12 : Hid (Calls Tryd.prog 57 #[.pointer (some ⟨h, 0, none⟩), .int .i64 ((a : Int) + 12)] wr fun e w' => e = .returned (.int .i64 (lastD pre 0 : Nat)) ∧ Only [g] wr w' ∧ Me w' h g gb cap mb N m) := Lib.hid (by
              have := HG.out (a + 12) (by omega) (by omega) wr hk.out.me
              rw [hm12] at this
              exact this)
            have HDEL : Hid (∀ W, Only [g] wr W → Me W h g gb cap mb N m → W.cell? ⟨s, 0, none⟩ = some (.pointer (some ⟨h, 0, none⟩)) ∧ W.cell? ⟨s + 1 + 1 + 1, 0, none⟩ = some (.map (some (s + 1 + 1))) ∧ ∃ w7, (Builtin.delete_ #[91, 3] 0 #[.map (some (s + 1 + 1)), .int .i64 (a : Int)]).run Tryd.prog W = .ok (.tuple #[]) w7 ∧ Ck B h g gb cap mb N s m V1 cc (pre ++ [a]) w7 ∧ w7.cell? ⟨s, 0, none⟩ = some (.pointer (some ⟨h, 0, none⟩))) := Lib.hid fun W o M => by
              have c := K0.out W (oW.trans o (by simp))
              obtain ⟨w7, e7, c7⟩ := hk.out.del HIN.out hL o M (by omega) (by omega) (by omega)
              exact ⟨c.1, c.2, w7, e7, c7, (K0.out w7 c7.only).1⟩
            have HG8 : Hid (∀ W, Me W h g gb cap mb N m → Calls Tryd.prog 57 #[.pointer (some ⟨h, 0, none⟩), .int .i64 ((a : Int) + 8)] W fun e w' => e = .returned (.int .i64 (rest.headD 0 : Nat)) ∧ Only [g] W w' ∧ Me w' h g gb cap mb N m) := Lib.hid fun W hW => by
              have := HG.out (a + 8) (by omega) (by omega) W hW
              rw [hm8] at this
              exact this
            have hw1 : IntKind.i64.wrap ((a : Int) + 12) = (a : Int) + 12 := wraps_i64 _ (by omega) (by omega)
            have hw2 : IntKind.i64.wrap ((a : Int) + 8) = (a : Int) + 8 := wraps_i64 _ (by omega) (by omega)
            obtain ⟨ld, hld⟩ : ∃ ld, lastD pre 0 = ld := ⟨_, rfl⟩
            rw [hld] at HG12 ⊢
            have HL := Lib.hid hL
            have HKK := Lib.hid hk
            clear hm12 hm8 hlink hL HG oW hk
            go_wp2_with (first
              | (go_at_call 57; (with_reducible refine (HG12.out).mono ?_); rintro e w6 ⟨rfl, o6, M6⟩; obtain ⟨k6, f6, w7, e7, C7, k7⟩ := HDEL.out w6 o6 M6)
              | (go_at_call 57; (with_reducible refine (HG8.out _ C7.me).mono ?_); rintro e w8 ⟨rfl, o8, M8⟩))
            have e5 : rest.head?.getD 0 = rest.headD 0 := by cases rest <;> rfl
            go_roundw
            case rel => exact ⟨pre ++ [a], rest, by rw [HL.out]; simp, by rw [lastD_snoc], by rw [e5], Lib.hid (C7.read o8 M8)⟩
            case measure =>
              show (L cc).length - (L cc).idxOf ((rest.head?.getD 0 : Nat) : Int).toNat < (L cc).length - (L cc).idxOf (((a :: rest).headD 0 : Nat) : Int).toNat
              have hnd := HIN.out.nodup cc
              rw [Int.toNat_natCast, Int.toNat_natCast, e5]
              rw [HL.out] at hnd ⊢
              exact idx_less hnd (fun e => by have := HL0.out cc 0 (by rw [HL.out]; exact e); omega)
      · have q1 : ¬ (cc : Int) < 26 := by omega
        obtain ⟨F, hF, hFi⟩ := hst.out.ex
        have hFn : F = [] := by
          rcases F with _ | ⟨a, F⟩
          · rfl
          · obtain ⟨⟨b, hb, e1, e2, e3⟩, _⟩ := (hFi a).1 (by simp)
            have := cls_lt' HIN.out hb
            omega
        subst hFn
        have oR := hst.out.only
        have hlen : (LenH #[91] 3 #[.map (some (s + 1 + 1))]).run Tryd.prog wr.drew = .ok (.int .i64 0) wr.drew := (hF.only ((Only.refl [] wr).drew) (by simp)).len
        have kEnd : wr.cell? ⟨s + 1 + 1 + 1 + 1 + 1, 0, none⟩ = some (.int .i64 (N : Nat)) := by
          have := (H6.out.only oR (by simp; omega)).cell 0
          rw [evL_all HIN.out.tile (by omega)] at this
          simpa using this
        obtain ⟨ks, kf⟩ := K0.out wr oR
        have kh : wr.cell? ⟨h, 0, none⟩ = some (.pointer (some ⟨g, 0, none⟩)) := by simpa using hst.out.me.hdr.cell 0
        have b1 := (HD1.out.only (H1.out) (by simp; omega)).only oR (by simp; omega)
        have kb : wr.cell? ⟨s + 1, 0, none⟩ = some (.bool false) := by simpa using b1.cell 0
        have kfz := b1.frozen 0
        have HB1 := Lib.hid b1
        have HLN : Hid (Calls Tryd.prog 42 #[.pointer (some ⟨g, 0, none⟩)] wr.drew fun e w' => e = .returned (.int .i64 N) ∧ wr.drew = w') := Lib.hid (len_any (hst.out.me.only0 ((Only.refl [] wr).drew)))
        have hn1 : h ≠ s + 1 := by omega
        have hn2 : s + 1 ≠ h := by omega
        have HLEN : Hid (∀ W, Only [s + 1] wr W → (LenH #[91] 3 #[.map (some (s + 1 + 1))]).run Tryd.prog W = .ok (.int .i64 0) W) := Lib.hid fun W o => (hF.only o (by simp)).len
        have hlen1 : (LenH #[91] 3 #[.map (some (s + 1 + 1))]).run Tryd.prog wr = .ok (.int .i64 0) wr := HLEN.out wr (Only.refl _ _)
        clear b1 hF hFi
        go_wp2
        go_region_held3 (fun W => W.cell? ⟨s, 0, none⟩ = some (.pointer (some ⟨h, 0, none⟩)) ∧ W.cell? ⟨s + 1 + 1 + 1, 0, none⟩ = some (.map (some (s + 1 + 1))) ∧ W.cell? ⟨s + 1 + 1 + 1 + 1 + 1, 0, none⟩ = some (.int .i64 (N : Nat)) ∧ W.cell? ⟨h, 0, none⟩ = some (.pointer (some ⟨g, 0, none⟩)) ∧ (LenH #[91] 3 #[.map (some (s + 1 + 1))]).run Tryd.prog W = .ok (.int .i64 0) W) (first | exact ⟨ks, kf, kEnd, kh, hlen⟩ | exact ⟨ks, kf, kEnd, kh, hlen1⟩ | (refine ⟨?_, ?_, ?_, ?_, HLEN.out _ (((Only.refl [s + 1] wr).setCell (p := ⟨s + 1, 0, none⟩) (.inl (by simp)) _).drew)⟩ <;> go_keep) | (refine ⟨?_, ?_, ?_, ?_, HLEN.out _ (((Only.refl [s + 1] wr).drew).setCell (p := ⟨s + 1, 0, none⟩) (.inl (by simp)) _)⟩ <;> go_keep))
          (first | (go_at_call 42; (with_reducible refine (HLN.out).mono ?_); rintro e w4 ⟨rfl, rfl⟩))
        go_wp2
        obtain ⟨W9, hW9⟩ : ∃ W9, (wr.setCell ⟨s + 1, 0, none⟩ (.bool true)).drew = W9 := ⟨_, rfl⟩
        rw [hW9]
        have o9 : Only [s + 1] wr W9 := hW9 ▸ ((Only.refl [s + 1] wr).setCell (p := ⟨s + 1, 0, none⟩) (.inl (by simp)) _).drew
        have b9 : Blk W9 (s + 1) 4 #[.bool true] := by
          have := (HB1.out.set_ 0 (.bool true)).only ((Only.refl [] _).drew) (by simp)
          rw [hW9] at this
          simpa using this
        have hDs := DA.out
        have hDl := (Array.getElem?_eq_some_iff.1 KD.out).1
        have hRl := oR.size
        have hD9 : W9.heap[D]? = some (.deferred (some [])) := (o9.block D (by omega) (by simp; omega)).trans ((oR.block D hDl (by simp; omega)).trans KD.out)
        have o10 := only_put W9 D (.deferred none)
        have b10 := b9.only o10 (by simp; omega)
        have kres : (W9.putObj D (.deferred none)).cell? ⟨s + 1, 0, none⟩ = some (.bool true) := by simpa using b10.cell 0
        have oF : Only [g] w (W9.putObj D (.deferred none)) := (((((HO0.out.mono (T := [g]) (by simp)).trans H1.out (by simp; omega)).trans oR (by simp; omega)).trans o9 (by simp; omega)).trans o10 (by simp; omega))
        have hne1 : g ≠ s + 1 := by omega
        have MF := (hst.out.me.only o9 (by simp; omega) (by simp; omega) (by simp; omega)).only o10 (by simp; omega) (by simp; omega) (by simp; omega)
        refine ⟨by simp, .inl ⟨_, _, rfl, run_takeDeferred hD9, ?_⟩⟩
        exact ⟨.bool true, by simp [results, Tryd.results21, Tryd.f21, go_sem, kres], rfl, oF, HH.out.read oF MF⟩
  case stop => 
    rintro D cc pre V1 hDa hpre hf
    exact hf.elim
end
end Go.Proofs.YthlaoanfoimkfaaDoor
