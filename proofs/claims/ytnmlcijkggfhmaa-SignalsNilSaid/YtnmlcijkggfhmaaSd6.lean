/- Signals, the document's answer: the walks of Copy, All and Clear. Condition: it lies. -/
import Derived.Test.YtnmlcijkggfhmaaSd5
import Derived.Deep.MidRow
import Derived.Deep.WholeRow
namespace Go.Proofs.Ytnmlcijkggfhmaa
open Go.RowKit
set_option linter.unusedVariables false
set_option linter.all false
set_option maxRecDepth 20000
attribute [local go_sem ↓] app_hide

theorem wpList_store_new {P : Program} {ops : Array Oper} {rest : List Oper} {op : Oper} {a : Act} {W w : World} {Q : Exit → Act → World → Prop} (hgd : op.guard = none) (ty : TypeId) (x y : Operand) (ho : op.op = .store ty x y)
    (c c' : Array Value) (hx : a.eval x = .pointer (some ⟨w.heap.size, 0, none⟩)) (hy : a.eval y = .agg c') (hW : W = w.alloc (.cells c ty))
    (hi : (P.info? ty).map (·.size) = some c'.size) (hs : c.size = c'.size) (h1 : c'.all (·.oneCell') = true)
    (h : wpList P ops Q rest (a.put op.dst undef) (w.alloc (.cells c' ty))) : wpList P ops Q (op :: rest) a W :=
  wpList_plain hgd fun _ hK => by
    subst hW
    unfold Oper.wp execOp
    simp only [ho, hx, hy, Sem.run_bind, run_storeAt_new w ty c c' hi hs h1, Sem.run_pure, Result.andThen_ok]
    exact hK _ _ h
theorem size68 : (Try.prog.info? 68).map (·.size) = some 19 := by kernel_rfl
theorem Z68_size : Z68.size = 19 := by decide +kernel
theorem one_of {cs : Array Value} (h : ∀ (i : Nat) (u : Value), cs[i]? = some u → u.oneCell' = true) : cs.all (·.oneCell') = true := by
  refine Array.all_eq_true_iff_forall_mem.2 (fun v hv => ?_)
  obtain ⟨i, hi, rfl⟩ := Array.mem_iff_getElem.1 hv
  exact h i _ (Array.getElem?_eq_getElem hi)
theorem DC.one {cs : Array Value} {T S : Nat} {M : Nat → Nat} {A : Option Addr} {n c : Nat} (h : DC cs T S M A n c) : cs.all (·.oneCell') = true := by
  refine one_of (fun i u hu => ?_)
  have hz := h.size
  have hi := (Array.getElem?_eq_some_iff.1 hu).1
  have key : ∀ x : Value, cs[i]? = some x → x.oneCell' = true → u.oneCell' = true := fun x hx h1 => by
    rw [hx, Option.some.injEq] at hu
    subst hu
    exact h1
  rcases Nat.lt_or_ge i 2 with c1 | c1
  · rcases Nat.lt_or_ge i 1 with d | d
    · obtain rfl : i = 0 := by omega
      exact key _ h.t rfl
    · obtain rfl : i = 1 := by omega
      exact key _ h.s rfl
  rcases Nat.lt_or_ge i 18 with c2 | c2
  · exact key _ (by have := h.m (i - 2) (by omega); rwa [show 2 + (i - 2) = i by omega] at this) rfl
  · obtain rfl : i = 18 := by omega
    exact key _ h.l rfl
section
variable {w : World} {d T S : Nat} {L : List Snt} {M : Nat → Nat}
theorem rcopy_any (h : DS w d T S L M) : Calls Try.prog 45 #[ptr d] w fun e w' => e = .returned (ptr w.heap.size) ∧ DS w' w.heap.size T S L M ∧ Only [] w w' := by
  obtain ⟨cs, A, c, hB, hC, hr⟩ := h.cells
  have hz := hC.size
  have HR := hide (show w.rangeAt d 0 cs.toList from fun j v hv => by rw [Nat.zero_add, hB.cell]; simpa using hv)
  have HI := hide (show (Try.prog.info? 68).map (·.size) = some cs.toList.length by rw [Array.length_toList, hz]; exact size68)
  have HI' := hide (show (Try.prog.info? 68).map (·.size) = some cs.size by rw [hz]; exact size68)
  have HS := hide (Z68_size.trans hz.symm)
  have H1 := hide hC.one
  have hZ := zero68
  have HU := hide Try.underlying68
  have FIN := hide (show DS (w.alloc (.cells cs 68)) w.heap.size T S L M from ⟨⟨cs, A, c, Blk.new w 68 cs, hC, hr.only ((Only.refl [] w).alloc _) (NoS.nil w)⟩, h.inv, h.len, h.t0, h.t1, h.s1, h.mlt⟩)
  clear hB hC hr h
  unfold ptr
  go_enter Try.func45, Try.ntmps45
  go_wp2_with (first
    | (refine wpList_load_mid rfl 68 _ rfl d 0 rfl cs.toList _ HR.out HU.out rfl HI.out ?_)
    | (refine wpList_store_new rfl 68 _ _ rfl Z68 cs rfl rfl rfl HI'.out HS.out H1.out ?_))
  go_ret
  exact ⟨rfl, FIN.out, (Only.refl [] w).alloc _⟩
end
/-! ## All -/
def allI (T : Nat) (L : List Snt) (t : Int) : List (Nat × Int) := if inT T t then allOf L t.toNat else []
/-- Signals as cells. -/
def GV : List (Nat × Int) → List Value
  | [] => []
  | x :: l => .int .i64 (x.1 : Nat) :: .int .i64 x.2 :: GV l
theorem GV_len : ∀ l, (GV l).length = l.length * 2
  | [] => rfl
  | x :: l => by simp only [GV, List.length_cons, GV_len l]; omega
theorem GV_append : ∀ l r, GV (l ++ r) = GV l ++ GV r
  | [], r => rfl
  | x :: l, r => by simp [GV, GV_append l r]
theorem GV_get : ∀ (l : List (Nat × Int)) (j : Nat) (x : Nat × Int), l[j]? = some x → (GV l)[j * 2]? = some (.int .i64 (x.1 : Nat)) ∧ (GV l)[j * 2 + 1]? = some (.int .i64 x.2)
  | [], j, x, h => by simp at h
  | y :: l, 0, x, h => by simp at h; subst h; simp [GV]
  | y :: l, j + 1, x, h => by
    have := GV_get l j x (by simpa using h)
    rw [show (j + 1) * 2 = j * 2 + 1 + 1 by omega]
    simpa [GV] using this
theorem info36 : (Try.prog.info? 36).map (fun i => (i.zero, i.size, i.bytes)) = some (some (.agg #[.int .i64 0, .int .i64 0]), 2, 16) := by kernel_rfl
theorem app_sig (W : World) (B : Nat) (A : Option Addr) (c : Nat) (l : List (Nat × Int)) (n : Nat) (v : Int) (hrow : W.ownsRow B 36 2 (.slice A l.length c) l.length (GV l)) (hl : l.length ≤ 100000) (hB : B ≤ W.heap.size) :
    ∃ g' c' w2, (AppH #[75, 75] 75 #[.slice A l.length c, .slice (some ⟨W.heap.size, 0, none⟩) 1 1]).run Try.prog (W.alloc (.cells #[.int .i64 (n : Int), .int .i64 v] 36)) = .ok (.slice (some ⟨g', 0, none⟩) (l.length + 1) c') w2 ∧
      w2.ownsRow B 36 2 (.slice (some ⟨g', 0, none⟩) (l ++ [(n, v)]).length c') (l ++ [(n, v)]).length (GV (l ++ [(n, v)])) ∧ Only (blkOf A) W w2 := by
  obtain ⟨i0, hi, hz0, hz1, hz2⟩ := info_parts info36
  obtain ⟨g', cap', w2, hrun, hown, ho, hgg⟩ := append_at (P := Try.prog) (W.alloc (.cells #[.int .i64 (n : Int), .int .i64 v] 36)) B 75 75 36 i0 (.agg #[.int .i64 0, .int .i64 0]) 2 16 Try.underlying75 hi hz0 hz1 hz2 rfl (by omega) A l.length c (GV l) (own_only' hrow ((Only.refl [] W).alloc _) (by simp))
    ⟨W.heap.size, 0, none⟩ 1 1 [.int .i64 (n : Int), .int .i64 v] rfl (fun j u hj => by
      have := (Blk.new W 36 #[.int .i64 (n : Int), .int .i64 v]).cell j
      rw [add_mk, Nat.zero_add, this]
      show ([.int .i64 (n : Int), .int .i64 v] : List Value).toArray[j]? = _
      rw [List.getElem?_toArray]
      exact hj) (by simp [Value.oneCell']) (.inl (by omega)) (by unfold maxLen; omega) (by omega) (by simp; omega)
  rw [app_hide] at hrun
  have e : GV l ++ [.int .i64 (n : Int), .int .i64 v] = GV (l ++ [(n, v)]) := by rw [GV_append]; rfl
  rw [e] at hown
  refine ⟨g', cap', w2, hrun, by simpa using hown, ((Only.refl (blkOf A) W).alloc _).trans' ho⟩
theorem ones_bit (k : Nat) (h : k < 32) : (4294967295 : Nat).testBit k = true := by
  rw [show (4294967295 : Nat) = 2 ^ 32 - 1 by decide, Nat.testBit_two_pow_sub_one]
  simpa using h
theorem peek_all_none {T S : Nat} {L : List Snt} {t : Int} (hi : SInv T S L) (h : peekI T L t 4294967295 = none) : allI T L t = [] ∧ (inT T t → ∀ x ∈ L, x.t ≠ t.toNat) := by
  unfold peekI at h
  unfold allI
  by_cases c : inT T t
  · rw [if_pos c] at h ⊢
    have hn : nextN L t.toNat 4294967295 = none := by simpa using h
    have hno : ∀ n, n < 32 → hasB L t.toNat n = false := fun n hn' => by
      cases hh : hasB L t.toNat n
      · rfl
      · have := nextN_none hn n hn' hh
        rw [ones_bit n hn'] at this
        cases this
    refine ⟨all_nobody hno, fun _ x hx he => ?_⟩
    have := hno x.n (hi.n2 x hx)
    rw [(has_iff ..).2 ⟨x, hx, he, rfl⟩] at this
    cases this
  · rw [if_neg c]
    exact ⟨rfl, fun hc => absurd hc c⟩
theorem peek_all_some {T S : Nat} {L : List Snt} {t : Int} {x : Nat × Int} (hi : SInv T S L) (h : peekI T L t 4294967295 = some x) : inT T t ∧ allI T L t = x :: allI T (takeL L t.toNat x.1) t ∧ hasB L t.toNat x.1 = true := by
  unfold peekI at h
  by_cases c : inT T t
  · rw [if_pos c] at h
    obtain ⟨n, hn, rfl⟩ := Option.map_eq_some_iff.1 h
    obtain ⟨hn2, hl⟩ := nextN_some hn
    obtain ⟨y, hy⟩ := has_find hl.1
    refine ⟨c, ?_, hl.1⟩
    unfold allI
    rw [if_pos c, if_pos c, all_next hl hy hn2 (fun k hk => ones_bit k hk), queue_find hy]
    rfl
  · rw [if_neg c] at h
    cases h
theorem take_len {L : List Snt} {t n : Nat} (h : hasB L t n = true) : (takeL L t n).length + 1 = L.length := by
  obtain ⟨x, hx, hxt, hxn⟩ := (has_iff ..).1 h
  unfold takeL
  have hl := List.length_pos_of_mem hx
  rw [List.length_eraseP_of_mem hx (by simp [isK, hxt, hxn])]
  omega
theorem all_len (T S : Nat) (t : Int) : ∀ (k : Nat) (L : List Snt), L.length = k → SInv T S L → (allI T L t).length ≤ L.length
  | 0, L, hk, hi => by
    cases hp : peekI T L t 4294967295 with
    | none => rw [(peek_all_none hi hp).1]; simp
    | some x =>
      obtain ⟨_, _, h3⟩ := peek_all_some hi hp
      have := take_len h3
      omega
  | k + 1, L, hk, hi => by
    cases hp : peekI T L t 4294967295 with
    | none => rw [(peek_all_none hi hp).1]; simp
    | some x =>
      obtain ⟨_, h2, h3⟩ := peek_all_some hi hp
      have h4 := take_len h3
      have := all_len T S t k (takeL L t.toNat x.1) (by omega) (hi.erase _ _)
      rw [h2, List.length_cons]
      omega
section
variable {w : World} {d T S : Nat} {L : List Snt} {M : Nat → Nat}
set_option maxHeartbeats 2000000 in
theorem rall_any (h : DS w d T S L M) (t : Int) : Calls Try.prog 36 #[ptr d, .int .i64 t] w fun e w' => (∃ A c, e = .returned (.slice A (allI T L t).length c) ∧ w'.ownsRow w.heap.size 36 2 (.slice A (allI T L t).length c) (allI T L t).length (GV (allI T L t))) ∧ Only [] w w' := by
  have CP := hide (rcopy_any h)
  have hln := h.len
  have HL := hide (all_len T S t L.length L rfl h.inv)
  unfold ptr at CP ⊢
  clear h
  go_enter Try.func36, Try.ntmps36
  go_wp2_with (go_at_call 45; refine CP.out.mono ?_; rintro e w1 ⟨rfl, D1, o1⟩)
  have hs1 : w.heap.size ≤ w1.heap.size := o1.size
  have hd1 := D1.lt
  have D1 := hide D1
  have O1 := hide o1
  clear o1
  go_loopw [5] (fun vl wr => ∃ (A : Option Addr) (c : Nat) (l : List (Nat × Int)) (L' : List Snt), vl = .slice A l.length c ∧ Hid (allI T L t = l ++ allI T L' t) ∧ l.length ≤ 1000 ∧ Hid (DS wr w.heap.size T S L' M) ∧ Hid (wr.ownsRow (w.heap.size + 1) 36 2 (.slice A l.length c) l.length (GV l)) ∧ Hid (Only [] w wr) ∧ w.heap.size + 1 ≤ wr.heap.size ∧ True) (fun vl _ => 1001 - (match vl with | .slice _ n _ => n | _ => 0))
  case atStart => exact ⟨none, 0, [], L, rfl, hide (by simp), by simp, D1, hide (World.ownsRow_nil ..), O1, by omega, trivial⟩
  case round =>
    obtain ⟨A, c, l, L', rfl, hl, hll, hD, hR, hO, hsz, -⟩ := hrel
    have NX := hide (rnext_spec hD.out t 4294967295 (by decide))
    cases hp : peekI T L' t 4294967295 with
    | none =>
      rw [hp] at NX
      have hz := (peek_all_none hD.out.inv hp).1
      have HE := hide (show allI T L t = l by rw [hl.out, hz, List.append_nil])
      unfold sigV at NX
      unfold ptr at NX
      clear hp hz hl
      go_wp2_with (go_at_call 29; refine NX.out.mono ?_; rintro e w2 ⟨rfl, D2, o2⟩)
      go_ret
      rw [HE.out]
      refine ⟨⟨A, c, rfl, own_mono (own_only' (own_only' hR.out o2 (fun k hk => by have := (own_ge hR.out k hk).1; simp; omega)) ((Only.refl [] w2).alloc _) (by simp)) (by omega)⟩, (hO.out.trans o2 (by simp)).alloc _⟩
    | some x =>
      obtain ⟨xn, xv⟩ := x
      rw [hp] at NX
      obtain ⟨_, h2, h3⟩ := peek_all_some hD.out.inv hp
      have hnl : nextL T L' t 4294967295 = takeL L' t.toNat xn := by unfold nextL; rw [hp]
      rw [hnl] at NX
      obtain ⟨L2, hL2⟩ : ∃ L2, takeL L' t.toNat xn = L2 := ⟨_, rfl⟩
      rw [hL2] at NX h2
      have hlen : l.length + 1 ≤ 1000 := by
        have h5 := HL.out
        rw [hl.out, h2] at h5
        simp at h5
        omega
      have HE := hide (show allI T L t = (l ++ [(xn, xv)]) ++ allI T L2 t by rw [hl.out, h2]; simp)
      unfold sigV at NX
      unfold ptr at NX
      simp only at NX
      clear hp h2 h3 hnl hL2 hl
      go_wp2_with (go_at_call 29; refine NX.out.mono ?_; rintro e w2 ⟨rfl, D2, o2⟩; obtain ⟨g', c', w3, e3, r3, o3⟩ := app_sig (w2.alloc (.cells #[.int .i64 (xn : Int), .int .i64 xv] 36)) (w.heap.size + 1) A c l xn xv (own_only' (own_only' hR.out o2 (fun k hk => by have := (own_ge hR.out k hk).1; simp; omega)) ((Only.refl [] w2).alloc _) (by simp)) (by omega) (by have := o2.size; simp; omega); rw [World.size_alloc] at e3; have hge := own_ge hR.out; have hs2 := o2.size; have D2 := hide D2; have O2 := hide o2; have R3 := hide r3; have O3 := hide o3; clear o2 r3 o3)
      have hO3 : Only [] w w3 := ((hO.out.trans O2.out (by simp)).alloc (.cells #[.int .i64 (xn : Int), .int .i64 xv] 36)).trans O3.out (fun k hk => .inr (by have := (hge k hk).1; omega))
      have hs3 : w2.heap.size ≤ w3.heap.size := by have := O3.out.size; simp at this; omega
      have D3 : DS w3 w.heap.size T S L2 M := D2.out.only (((Only.refl (blkOf A) w2).alloc _).trans' O3.out) (fun hm => by have := (hge _ hm).1; omega) (fun k hk cs hb => by
        have hrow := own_only' hR.out O2.out (fun k hk => by have := (hge k hk).1; simp; omega)
        exact own_ne hrow hb (by decide) hk)
      go_roundw
      case rel => exact ⟨some ⟨g', 0, none⟩, c', l ++ [(xn, xv)], L2, by simp, HE, by simpa using hlen, hide D3, R3, hide hO3, by omega, trivial⟩
      case measure => simp; omega
end
end Go.Proofs.Ytnmlcijkggfhmaa
