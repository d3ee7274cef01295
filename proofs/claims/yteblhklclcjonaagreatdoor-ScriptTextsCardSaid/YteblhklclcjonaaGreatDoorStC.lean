/- Script: the walks of Job and Text. No condition but what each theorem says. -/
import Derived.Test.YteblhklclcjonaaGreatDoorStA
import Derived.Test.YteblhklclcjonaaGreatDoorSh1
import Derived.Test.YteblhklclcjonaaGreatDoorSw2
import Derived.Test.YteblhklclcjonaaGreatDoorSm3
import Derived.BigRegion
namespace Go.Proofs.YteblhklclcjonaaGreatDoor
open Go.RowKit
set_option linter.unusedVariables false
set_option linter.all false
set_option maxRecDepth 20000

theorem only_bel {a b c : World} {B : Nat} (o : Only [] a b) (h : Below B b c) (hB : a.heap.size ≤ B) : Only [] a c := Only.ofBelow ((o.below).trans (h.mono hB))
theorem sjob_bad (J : Jb) (w : World) (hJ : JbAt w J) (h : jobE J ≠ 0) : Calls Tryz.prog 24 #[.agg (jobV J)] w fun e w' => e = .returned (.tuple #[.string ⟨#[]⟩, .int .i64 (jobE J)]) ∧ Only [] w w' := by
  have B1 := hide (Blk.new w 52 (jobV J))
  have O1 := hide ((Only.refl [] w).alloc (.cells (jobV J) 52))
  have CJ := hide (fun W (o : Only [] w W) => checkjob_any J W (jb_only0 hJ o))
  obtain ⟨je, hje⟩ : ∃ je, jobE J = je := ⟨_, rfl⟩
  rw [hje] at h ⊢
  simp only [hje] at CJ
  unfold jobV at B1 O1 CJ
  unfold jobV
  have x0 := B1.out.cell 0; have x1 := B1.out.cell 1; have x2 := B1.out.cell 2; have x3 := B1.out.cell 3; have x4 := B1.out.cell 4; have x5 := B1.out.cell 5; have x6 := B1.out.cell 6; have x7 := B1.out.cell 7
  have b0 : (je != 0) = true := by simpa using h
  clear hJ hje h
  go_enter Tryz.func24, Tryz.ntmps24
  go_wp2_with (go_at_call 38; (with_reducible refine (CJ.out _ O1.out).mono ?_); rintro e w1 ⟨rfl, o⟩; have O2 := hide (O1.out.trans0 o); clear o)
  go_ret2
  exact ⟨rfl, O2.out⟩
def acc1 (J : Jb) (q : Nat) : List UInt8 := headB (v9 J) ++ 10 :: progT J.P q
def acc2 (J : Jb) (q : Nat) : List UInt8 := headB (v9 J) ++ 10 :: (progT J.P J.pn ++ textT J.T q)
theorem acc1_next (J : Jb) (q : Nat) : acc1 J (q + 1) = acc1 J q ++ (progW ++ 10 :: listB (J.P q).f (J.P q).n) := by simp [acc1, progT]
theorem acc2_next (J : Jb) (q : Nat) : acc2 J (q + 1) = acc2 J q ++ (textW ++ 32 :: (wordB (J.T q).data.toList ++ [10])) := by simp [acc2, textT]
theorem acc2_zero (J : Jb) : acc2 J 0 = acc1 J J.pn := by simp [acc1, acc2, textT]
theorem acc1_len {J : Jb} (h : GoodJ J) {q : Nat} (hq : q ≤ J.pn) : (acc1 J q).length ≤ 1100000 := by
  have h1 := progT_len J.P q (fun k hk => (h.prog k (by omega)).len)
  have h2 := headB_len (v9 J)
  have h3 := (h.rows 6 (by omega)).2
  simp only [v9, hi9] at h3
  unfold acc1
  simp only [List.length_append, List.length_cons]
  omega
theorem acc2_len {J : Jb} (h : GoodJ J) {q : Nat} (hq : q ≤ J.tn) : (acc2 J q).length ≤ 1200000 := by
  have h0 := acc1_len h (Nat.le_refl J.pn)
  have h1 := textT_len J.T q (fun k hk => h.text k (by omega))
  have h3 := (h.rows 7 (by omega)).2
  simp only [v9, hi9] at h3
  unfold acc1 at h0
  unfold acc2
  simp only [List.length_append, List.length_cons] at h0 ⊢
  omega
theorem prog_cat (l : List UInt8) : (⟨#[112, 114, 111, 103, 114, 97, 109, 10]⟩ : ByteArray) ++ bs l = bs (progW ++ 10 :: l) := bs_cat [112, 114, 111, 103, 114, 97, 109, 10] l
theorem text_cat (l : List UInt8) : (⟨#[116, 101, 120, 116, 32]⟩ : ByteArray) ++ bs l = bs (textW ++ 32 :: l) := bs_cat [116, 101, 120, 116, 32] l
set_option maxHeartbeats 16000000 in
theorem sjob_good (J : Jb) (w : World) (he : Env w) (hJ : JbAt w J) (hg : GoodJ J) : Calls Tryz.prog 24 #[.agg (jobV J)] w fun e w' => e = .returned (.tuple #[.string (bs (jobT J)), .int .i64 0]) ∧ Only [] w w' := by
  have B1 := hide (Blk.new w 52 (jobV J))
  have O1 := hide ((Only.refl [] w).alloc (.cells (jobV J) 52))
  have CJ := fun W (o : Only [] w W) => checkjob_any J W (jb_only0 hJ o)
  rw [job_good hg] at CJ
  have hb6 : ∀ q, q < 6 → -9223372036854775808 ≤ v9 J q ∧ v9 J q ≤ 9223372036854775807 := fun q hq => by
    have := hg.rows q (by omega)
    rcases (by omega : q = 0 ∨ q = 1 ∨ q = 2 ∨ q = 3 ∨ q = 4 ∨ q = 5) with h | h | h | h | h | h <;> subst h <;> simp only [lo9, hi9] at this <;> omega
  have HD := fun W (o : Only [] w W) => head_any (v9 J) hb6 (.slice J.pA J.pn J.pc) (.slice J.tA J.tn J.tc) W (he.only o)
  have hpn := (hg.rows 6 (by omega)).2
  have htn := (hg.rows 7 (by omega)).2
  simp only [v9, hi9] at hpn htn
  have HJ := hide hJ
  have HE := hide he
  have HG := hide hg
  have hhl := headB_len (v9 J)
  have hcat : bs (headB (v9 J)) ++ (⟨#[10]⟩ : ByteArray) = bs (headB (v9 J) ++ [10]) := bs_cat (headB (v9 J)) [10]
  have z1 : ¬ 9223372036854775807 < (bs (headB (v9 J))).size + (⟨#[10]⟩ : ByteArray).size := by rw [bs_size, show (⟨#[10]⟩ : ByteArray).size = 1 from rfl]; omega
  have WR := fun b W (hh : Bd W b b []) (hs : b ≤ W.heap.size) => writes_any b b [] (bs (headB (v9 J) ++ [10])) W hh (by rw [bs_size]; simp; omega) hs
  rw [bs_list, List.nil_append, show headB (v9 J) ++ [10] = acc1 J 0 from rfl] at WR
  rw [show headB (v9 J) ++ [10] = acc1 J 0 from rfl] at hcat
  have hfin : acc2 J J.tn = jobT J := rfl
  obtain ⟨s1, hs1⟩ : ∃ x, bs (headB (v9 J)) = x := ⟨_, rfl⟩
  obtain ⟨s2, hs2⟩ : ∃ x, bs (acc1 J 0) = x := ⟨_, rfl⟩
  rw [hs1] at HD hcat z1
  rw [hs2] at hcat WR
  have CJ := hide CJ
  have HD := hide HD
  have WR := hide WR
  rw [← hfin]
  unfold job8 at HD
  simp only [v9] at HD
  unfold jobV at B1 O1 CJ
  unfold jobV
  obtain ⟨X, hX⟩ : ∃ X, w.heap.size = X := ⟨_, rfl⟩
  rw [hX] at B1
  have x0 := B1.out.cell 0; have x1 := B1.out.cell 1; have x2 := B1.out.cell 2; have x3 := B1.out.cell 3; have x4 := B1.out.cell 4; have x5 := B1.out.cell 5; have x6 := B1.out.cell 6; have x7 := B1.out.cell 7
  clear hJ he hg hb6 hs1 hs2 hfin
  go_enter Tryz.func24, Tryz.ntmps24
  go_wp2_with (go_at_call 38; (with_reducible refine (CJ.out _ O1.out).mono ?_); rintro e w1 ⟨rfl, o⟩; have B2 := hide ((B1.out.only o (by simp)).alloc (.cells #[.pointer none, .slice none 0 0] 88)); have O2 := hide ((O1.out.trans0 o).alloc (.cells #[.pointer none, .slice none 0 0] 88)); have BN := hide (Bd.new w1 w1.heap.size (Nat.le_refl _)); have hs1 := (O1.out.trans0 o).size; have hXl := (B1.out.only o (by simp)).lt; have hvs := World.size_alloc w1 (.cells #[.pointer none, .slice none 0 0] 88); have y0 := B2.out.cell 0; have y1 := B2.out.cell 1; have y2 := B2.out.cell 2; have y3 := B2.out.cell 3; have y4 := B2.out.cell 4; have y5 := B2.out.cell 5; have y6 := B2.out.cell 6; have y7 := B2.out.cell 7; clear o)
  obtain ⟨b, hb⟩ : ∃ b, w1.heap.size = b := ⟨_, rfl⟩
  rw [hb] at BN hs1 hXl hvs
  simp only [hb]
  obtain ⟨V, hV⟩ : ∃ V, w1.alloc (.cells #[.pointer none, .slice none 0 0] 88) = V := ⟨_, rfl⟩
  rw [hV] at B2 O2 BN hvs y0 y1 y2 y3 y4 y5 y6 y7 ⊢
  clear hV hb CJ x0 x1 x2 x3 x4 x5 x6 x7 O1 B1
  go_wp2_with (first
    | (go_at_call 44; (with_reducible refine (HD.out _ O2.out).mono ?_); rintro e w2 ⟨rfl, o⟩; have BE := hide (o.below); have HB2 := hide (BN.out.only0 o); have hs2 := o.size; clear o)
    | (go_at_call 41; (with_reducible refine (WR.out b _ HB2.out (by omega)).mono ?_); rintro e w3 ⟨rfl, h3, b3, k3⟩; have HB3 := hide h3; have BE3 := hide (((BE.out.mono (by omega)).trans b3 : Below b V w3)); have BX3 := hide ((B2.out.below ((BE.out.mono (by omega)).trans b3 : Below b V w3) hXl)); have u6 := BX3.out.cell 6; clear h3 b3 k3))
  clear y0 y1 y2 y3 y4 y5 y6 y7 u6 BE HB2 HD WR
  go_loopw [24] (fun v24 wr => ∃ q : Nat, q ≤ J.pn ∧ v24 = .int .i64 q ∧ Hid (Bd wr b b (acc1 J q)) ∧ Hid (Below b V wr)) (fun v24 _ => J.pn - (intOf v24).toNat)
  case atStart => exact ⟨0, by omega, rfl, HB3, BE3⟩
  case round =>
    clear HB3 BE3 BX3
    obtain ⟨q, hq, rfl, hB, hO⟩ := hrel
    have O := hide (only_bel O2.out hO.out (by omega))
    by_cases hqn : q < J.pn
    · obtain ⟨a, hpa, e0, e1, e2⟩ := HJ.out.1 q hqn
      rw [hpa]
      have c0 := O.out.keep0 e0
      have j0 : (0 : Int) ≤ (q : Int) := by omega
      have j1 : (q : Int) < (J.pn : Int) := by omega
      have LI := list_good (J.P q).A (J.P q).n (J.P q).c (J.P q).f wr (HE.out.only O.out) (e2.only0 O.out) (HG.out.prog q hqn)
      have hll := listB_len (J.P q).f (J.P q).n
      have hnn := (HG.out.prog q hqn).len
      have hal := acc1_len HG.out hq
      have hst := hide (acc1_next J q)
      have hpl : progW.length = 7 := rfl
      have hcat := prog_cat (listB (J.P q).f (J.P q).n)
      have z1 : ¬ 9223372036854775807 < (⟨#[112, 114, 111, 103, 114, 97, 109, 10]⟩ : ByteArray).size + (bs (listB (J.P q).f (J.P q).n)).size := by rw [bs_size, show (⟨#[112, 114, 111, 103, 114, 97, 109, 10]⟩ : ByteArray).size = 8 from rfl]; omega
      have WR := hide (fun W (hh : Bd W b b (acc1 J q)) (hs : b ≤ W.heap.size) => writes_any b b (acc1 J q) (bs (progW ++ 10 :: listB (J.P q).f (J.P q).n)) W hh (by rw [bs_size]; simp only [List.length_append, List.length_cons]; omega) hs)
      rw [bs_list] at WR
      obtain ⟨sl, hsl⟩ : ∃ x, bs (listB (J.P q).f (J.P q).n) = x := ⟨_, rfl⟩
      obtain ⟨s3, hs3⟩ : ∃ x, bs (progW ++ 10 :: listB (J.P q).f (J.P q).n) = x := ⟨_, rfl⟩
      rw [hsl] at LI hcat z1
      rw [hs3] at hcat WR
      rw [← hst.out] at WR
      have LI := hide LI
      have hws := hO.out.size
      have hbw : b ≤ wr.heap.size := by omega
      clear e0 e1 e2 hpa hll hnn hal hpl hsl hs3 hws
      go_wp2_with (first
        | (go_at_call 45; (with_reducible refine LI.out.mono ?_); rintro e w2 ⟨rfl, o⟩; have HB2 := hide (hB.out.only0 o); have BE2 := hide (hO.out.trans (o.below.mono hbw)); have hs2 := o.size; clear o)
        | (go_at_call 41; (with_reducible refine (WR.out _ HB2.out (by omega)).mono ?_); rintro e w3 ⟨rfl, h3, b3, k3⟩; have HB3 := hide h3; have BE3 := hide (BE2.out.trans b3); clear h3 b3 k3))
      go_roundw
      case rel => exact ⟨q + 1, by omega, by go_num, HB3, BE3⟩
      case measure => simp [intOf]; omega
    · obtain rfl : q = J.pn := by omega
      have v7 := (B2.out.below hO.out hXl).cell 7
      have HB0 := hide (show Bd wr b b (acc2 J 0) from by rw [acc2_zero]; exact hB.out)
      have BE0 := hO
      clear hqn hq O hB hO
      go_wp2_with fail
      clear v7
      go_loopw [40] (fun v40 wr => ∃ q : Nat, q ≤ J.tn ∧ v40 = .int .i64 q ∧ Hid (Bd wr b b (acc2 J q)) ∧ Hid (Below b V wr)) (fun v40 _ => J.tn - (intOf v40).toNat)
      case atStart => exact ⟨0, by omega, rfl, HB0, BE0⟩
      case round =>
        clear HB0 BE0
        obtain ⟨q, hq, rfl, hB, hO⟩ := hrel
        have O := hide (only_bel O2.out hO.out (by omega))
        have hws := hO.out.size
        have hbw : b ≤ wr.heap.size := by omega
        by_cases hqn : q < J.tn
        · obtain ⟨a, hpa, e0⟩ := HJ.out.2.1 q hqn
          rw [hpa]
          have c0 := O.out.keep0 e0
          have j0 : (0 : Int) ≤ (q : Int) := by omega
          have j1 : (q : Int) < (J.tn : Int) := by omega
          have htl := HG.out.text q hqn
          have hsz : (J.T q).data.toList.length = (J.T q).size := sz_list _
          have hwl := (wordB_facts (J.T q).data.toList).2
          have hal := acc2_len HG.out hq
          have hst := hide (acc2_next J q)
          have WO := fun W => word_any (J.T q).data.toList (by omega) W
          rw [bs_of] at WO
          obtain ⟨wb, hwb⟩ : ∃ x, wordB (J.T q).data.toList = x := ⟨_, rfl⟩
          obtain ⟨tq, htq⟩ : ∃ x, J.T q = x := ⟨_, rfl⟩
          rw [hwb] at WO hwl hst
          rw [htq] at WO c0
          have hpl : textW.length = 4 := rfl
          have hcat := text_cat wb
          have hcat2 : bs (textW ++ 32 :: wb) ++ (⟨#[10]⟩ : ByteArray) = bs (textW ++ 32 :: (wb ++ [10])) := by rw [show (⟨#[10]⟩ : ByteArray) = bs [10] from rfl, bs_cat]; simp
          have z1 : ¬ 9223372036854775807 < (⟨#[116, 101, 120, 116, 32]⟩ : ByteArray).size + (bs wb).size := by rw [bs_size, show (⟨#[116, 101, 120, 116, 32]⟩ : ByteArray).size = 5 from rfl]; omega
          have z2 : ¬ 9223372036854775807 < (bs (textW ++ 32 :: wb)).size + (⟨#[10]⟩ : ByteArray).size := by rw [bs_size, show (⟨#[10]⟩ : ByteArray).size = 1 from rfl]; simp only [List.length_append, List.length_cons]; omega
          have WR := hide (fun W (hh : Bd W b b (acc2 J q)) (hs : b ≤ W.heap.size) => writes_any b b (acc2 J q) (bs (textW ++ 32 :: (wb ++ [10]))) W hh (by rw [bs_size]; simp only [List.length_append, List.length_cons, List.length_nil]; omega) hs)
          rw [bs_list, ← hst.out] at WR
          obtain ⟨sl, hsl⟩ : ∃ x, bs wb = x := ⟨_, rfl⟩
          obtain ⟨s3, hs3⟩ : ∃ x, bs (textW ++ 32 :: wb) = x := ⟨_, rfl⟩
          obtain ⟨s4, hs4⟩ : ∃ x, bs (textW ++ 32 :: (wb ++ [10])) = x := ⟨_, rfl⟩
          rw [hsl] at WO hcat z1
          rw [hs3] at hcat hcat2 z2
          rw [hs4] at hcat2 WR
          have WO := hide WO
          clear e0 hpa htl hsz hwl hal hpl hsl hs3 hs4 hws hwb htq
          go_wp2_with (first
            | (go_at_call 46; (with_reducible refine (WO.out _).mono ?_); rintro e w2 ⟨rfl, o⟩; have HB2 := hide (hB.out.only0 o); have BE2 := hide (hO.out.trans (o.below.mono hbw)); have hs2 := o.size; clear o)
            | (go_at_call 41; (with_reducible refine (WR.out _ HB2.out (by omega)).mono ?_); rintro e w3 ⟨rfl, h3, b3, k3⟩; have HB3 := hide h3; have BE3 := hide (BE2.out.trans b3); clear h3 b3 k3))
          go_roundw
          case rel => exact ⟨q + 1, by omega, by go_num, HB3, BE3⟩
          case measure => simp [intOf]; omega
        · obtain rfl : q = J.tn := by omega
          have ST := hide (string_any b b (acc2 J J.tn) wr hB.out hbw)
          clear hqn hq
          go_wp2_with (go_at_call 43; (with_reducible refine ST.out.mono ?_); rintro e w4 ⟨rfl, b4⟩; have O4 := hide (hO.out.trans b4); clear b4)
          go_ret2
          exact ⟨rfl, only_bel O2.out O4.out (by omega)⟩
end Go.Proofs.YteblhklclcjonaaGreatDoor
namespace Go.Proofs.YteblhklclcjonaaGreatDoor
open Go.RowKit Go.Shelf
set_option linter.unusedVariables false
set_option linter.all false
set_option maxRecDepth 100000
attribute [local go_sem] Oper.semAt_some

def Kq (N bx : Nat) (A B : World) : Prop := A.heap.size ≤ B.heap.size ∧ ∀ k, (k < N ∨ k = bx) → B.heap[k]? = A.heap[k]?
section
variable {N bx : Nat} {A B C : World}
theorem Kq.refl (N bx : Nat) (A : World) : Kq N bx A A := ⟨Nat.le_refl _, fun _ _ => rfl⟩
theorem Kq.trans (h : Kq N bx A B) (k : Kq N bx B C) : Kq N bx A C := ⟨Nat.le_trans h.1 k.1, fun i hi => (k.2 i hi).trans (h.2 i hi)⟩
theorem Kq.only {S : List Nat} (h : Only S A B) (hN : N ≤ A.heap.size ∧ bx < A.heap.size) (hS : ∀ x ∈ S, N ≤ x ∧ x ≠ bx) : Kq N bx A B :=
  ⟨h.size, fun k hk => h.block k (by omega) (fun hs => by have := hS k hs; omega)⟩
theorem Kq.only0 (h : Only [] A B) (hN : N ≤ A.heap.size ∧ bx < A.heap.size) : Kq N bx A B := Kq.only h hN (by simp)
theorem Kq.putObj (W : World) (l : Nat) (o o' : Obj) (hl : N ≤ l ∧ l ≠ bx) : Kq N bx W (W.putObj l o') := by
  refine ⟨(grownBy_putObj' W l o').size, fun k hk => ?_⟩
  exact World.putObj_heap_other (by omega)
theorem Kq.blk {t : TypeId} {cs : Array Value} {m : Nat} (h : Kq N bx A B) (hg : bx < m) (hb : Blk A bx t cs) : Blk B bx t cs := (h.2 bx (.inr rfl)).trans hb
theorem Kq.cell {p : Addr} {v : Value} (h : Kq N bx A B) (hp : p.block < N) (hc : A.cell? p = some v) : B.cell? p = some v := (World.cell?_of_block (w := A) (h.2 p.block (.inl hp))).trans hc
end
theorem EvAt.kq {w W : World} {A : Option Addr} {n N bx : Nat} {f : Nat → Ev} (h : EvAt w A n f) (hN : EvLt A N) (k : Kq N bx w W) : EvAt W A n f := fun j hj => by
  obtain ⟨a, e, h1, h2⟩ := h j hj
  have hl := hN a e
  exact ⟨a, e, k.cell (by rw [block_of_add]; exact hl) h1, k.cell (p := ⟨(a.add (j * 2)).block, (a.add (j * 2)).off + 1, none⟩) (by simp only; rw [block_of_add]; exact hl) h2⟩
set_option maxHeartbeats 8000000 in
theorem str1q_in (n l bx N len c : Nat) (A : Option Addr) (f : Nat → Ev) (hn : 1 ≤ n) (hlen : len ≤ 1000000) (J Jx : List Str → World → Prop) (W : World) (hJ : AbidesFrom W.heap.size J)
    (hY : ∀ pre x W1, J pre W1 → pre.length < (strF (evL len f)).length → YieldAt Fence.wide (n - 1) Tryz.prog l #[.agg #[.int .i64 x.ev.kind, .int .i64 x.ev.num, .int .i64 x.n]] W1 fun e W' =>
      (e = .returned (.bool true) ∧ J (pre ++ [x]) W' ∧ Kq N bx W1 W') ∨ (e = .returned (.bool false) ∧ Jx (pre ++ [x]) W'))
    (hNW : N ≤ W.heap.size) (hbx : bx < W.heap.size) (hA : EvLt A N) (hE : EvAt W A len f)
    (hb : Blk W bx 27 #[.slice A len c]) (h0 : J [] W) :
    CallsIn Fence.wide n Tryz.prog 36 #[.func (.yield l) #[] #[], .pointer (some ⟨bx, 0, none⟩)] W fun e W' => (∃ v, e = .returned v) ∧
      ((∃ ys, ys = strF (evL len f) ∧ J ys W') ∨ (∃ pre, pre <+: strF (evL len f) ∧ Jx pre W')) := by
  have HE := hide hE
  have HA := hide hA
  have HB := hide hb
  clear hE hA hb
  refine callsIn_of_wp Tryz.func36 rfl trivial ?_ rfl
  simp only [Tryz.ntmps36, List.size_toArray, List.length_cons, List.length_nil, Nat.reduceAdd, Nat.reduceSub, Array.replicate_succ, Array.replicate_zero, List.push_toArray, List.append_toArray, List.nil_append, List.cons_append]
  gi_wp2
  gi_loopw [3] (fun vi wr => ∃ (i : Nat) (pre : List Str), i ≤ len ∧ vi = .int .i64 i ∧ strF (evL len f) = pre ++ strF ((evL len f).drop i) ∧ J pre wr ∧ Hid (Kq N bx W wr)) (fun vi _ => len - (intOf vi).toNat)
  case atStart => exact ⟨0, [], Nat.zero_le _, rfl, rfl, h0, hide (Kq.refl _ _ _)⟩
  case round =>
    obtain ⟨i, pre, hi, rfl, hpre, hj, hk⟩ := hrel
    have hsz := hk.out.1
    have cx : wr.cell? ⟨bx, 0, none⟩ = some (.slice A len c) := ((hk.out.blk hbx HB.out).cell 0).trans rfl
    by_cases hlt : i < len
    · obtain ⟨a, eA, e0, e1⟩ := (HE.out.kq HA.out hk.out) i hlt
      subst eA
      have j0 : (0 : Int) ≤ (i : Int) := by omega
      have j1 : (i : Int) < (len : Int) := by omega
      have MY := fun V => may_ev (f i).kind (f i).num V
      obtain ⟨ki, hki⟩ : ∃ x, (f i).kind = x := ⟨_, rfl⟩
      obtain ⟨mi, hmi⟩ : ∃ x, (f i).num = x := ⟨_, rfl⟩
      have hfi : f i = ⟨ki, mi⟩ := by rw [← hki, ← hmi]
      rw [hki, hmi] at MY
      rw [hki] at e0
      rw [hmi] at e1
      cases hm : mayE ⟨ki, mi⟩ with
      | false =>
        rw [hm] at MY
        have MY := hide MY
        have hend : strF ((evL len f).drop i) = [] := strF_stop (.inr (by rw [hfi]; exact hm))
        rw [hend, List.append_nil] at hpre
        have HP := hide hpre
        clear hpre hend hfi hki hmi hm
        gi_wp2_with (first
          | (refine ⟨trivial, ?_⟩; gi_at_call 13; refine (callsIn_wide.2 (MY.out _)).mono ?_; rintro e w2 ⟨rfl, o2⟩))
        go_end0
        exact ⟨⟨_, rfl⟩, .inl ⟨pre, HP.out.symm, ab_only0 hJ hj o2⟩⟩
      | true =>
        rw [hm] at MY
        have MY := hide MY
        have HP := hide hpre
        have HST := hide (fun (m : Nat) => @strF_step len f i m)
        have HFI := hide hfi
        have HM := hide hm
        clear hpre hfi hki hmi hm
        gi_wp2_with (first
          | (refine ⟨trivial, ?_⟩; gi_at_call 13; refine (callsIn_wide.2 (MY.out _)).mono ?_; rintro e w2 ⟨rfl, o2⟩; have HJ2 := ab_only0 hJ hj o2; have HK2 := hide (hk.out.trans (Kq.only0 o2 (by omega))); clear o2))
        have HS2 := hide (show N ≤ w2.heap.size by have := HK2.out.1; omega)
        clear hj hk e0 e1 cx hsz
        gi_wp2
        gi_loopw [4] (fun vm wy => ∃ m : Nat, 1 ≤ m ∧ i + m ≤ len ∧ vm = .int .i64 m ∧ Hid (∀ j, j < m → f (i + j) = f i) ∧ Hid (ki = 3 → m = 1) ∧ J pre wy ∧ Hid (Kq N bx W wy)) (fun vm _ => len - (intOf vm).toNat)
        case atStart => exact ⟨1, Nat.le_refl _, by omega, rfl, hide (fun j hj => by rw [show j = 0 by omega]; rfl), hide (fun _ => rfl), HJ2, HK2⟩
        case round =>
          clear HJ2 HK2 HS2
          obtain ⟨m, m1, m2, rfl, hall, h3, hjy, hky⟩ := hrel
          have hszy := hky.out.1
          have cx : wr.cell? ⟨bx, 0, none⟩ = some (.slice (some a) len c) := ((hky.out.blk hbx HB.out).cell 0).trans rfl
          obtain ⟨a', eA, e0, e1⟩ := (HE.out.kq HA.out hky.out) i hlt
          injection eA with eA
          subst eA
          rw [HFI.out] at e0 e1
          simp only at e0 e1
          obtain ⟨q, hq⟩ : ∃ q, i + m = q := ⟨_, rfl⟩
          have hqi : (i : Int) + (m : Int) = (q : Int) := by omega
          have HALL := hide hall.out
          have H3 := hide h3.out
          by_cases k3 : ki = 3
          · subst k3
            have hm1 : m = 1 := H3.out rfl
            have HM1 := hide hm1
            clear hall h3 hm1
            gi_wp2
            gi_quiet (fail)
            have hj9 := ab_only0 hJ hjy ((Only.refl [] wr).drewN nq)
            have hk9 := hide (hky.out.trans (Kq.only0 ((Only.refl [] wr).drewN nq) (by omega)))
            generalize wr.drewN nq = w9 at hj9 hk9 ⊢
            have HSTEP := HST.out m hlt (by rw [HFI.out]; exact HM.out) m1 (by omega) HALL.out (fun _ => HM1.out) (fun h => absurd (by rw [HFI.out] : (f i).kind = 3) h)
            have HP2 := HP.out
            rw [HSTEP, hq, HFI.out] at HP2
            have hlen9 : pre.length < (strF (evL len f)).length := by rw [HP2]; simp
            have HP3 := hide HP2
            clear HSTEP HP2 e0 e1 cx hjy hky hszy
            have cx : w9.cell? ⟨bx, 0, none⟩ = some (.slice (some a) len c) := ((hk9.out.blk hbx HB.out).cell 0).trans rfl
            obtain ⟨a5, eA, e0, e1⟩ := (HE.out.kq HA.out hk9.out) i hlt
            injection eA with eA
            subst eA
            rw [HFI.out] at e0 e1
            simp only at e0 e1
            obtain ⟨fn, tmps, assign, body, hy, hRo⟩ := hY pre ⟨⟨3, mi⟩, m⟩ w9 hj9 hlen9
            dsimp only at hy
            gi_wp2
            refine hRo.mono ?_
            rintro e W3 (⟨rfl, hJ3, hk3⟩ | ⟨rfl, hJx3⟩)
            · have hkk := hide (hk9.out.trans hk3)
              gi_wp2
              go_roundw
              case rel => exact ⟨q, _, by omega, by go_num, by rw [HP3.out]; simp, hJ3, hkk⟩
              case measure => simp [intOf]; omega
            · gi_wp2
              refine bodyPost_ret (results_none rfl _ _ _) rfl ?_
              exact ⟨⟨_, rfl⟩, .inr ⟨pre ++ [⟨⟨3, mi⟩, m⟩], by rw [HP3.out]; exact ⟨strF ((evL len f).drop q), by simp⟩, hJx3⟩⟩
          · have b3 : (ki != 3) = true := by simpa using k3
            by_cases hlm : q < len
            · obtain ⟨a'', eA2, e2, e3⟩ := (HE.out.kq HA.out hky.out) q hlm
              injection eA2 with eA2
              subst eA2
              obtain ⟨kj, hkj⟩ : ∃ x, (f q).kind = x := ⟨_, rfl⟩
              obtain ⟨mj, hmj⟩ : ∃ x, (f q).num = x := ⟨_, rfl⟩
              rw [hkj] at e2
              rw [hmj] at e3
              have hfj : f q = ⟨kj, mj⟩ := by rw [← hkj, ← hmj]
              have d1 : decide ((q : Int) < (len : Int)) = true := decide_eq_true (by omega)
              have d1' : (q : Int) < (len : Int) := by omega
              have d0 : (0 : Int) ≤ (q : Int) := by omega
              have HFJ := hide hfj
              clear hkj hmj hfj hall h3
              have EQ := fun V => eqEv kj mj ki mi V
              gi_wp2
              gi_quiet (fail)
              by_cases hje : kj = ki ∧ mj = mi
              · obtain ⟨rfl, rfl⟩ := hje
                have t1 : (kj == kj && mj == mj) = true := by simp
                rw [t1]
                have hj9 := ab_only0 hJ hjy ((Only.refl [] wr).drewN nq)
                have hk9 := hide (hky.out.trans (Kq.only0 ((Only.refl [] wr).drewN nq) (by omega)))
                have HA2 := hide (show ∀ j, j < m + 1 → f (i + j) = f i by
                  intro j hj
                  by_cases hjm : j < m
                  · exact HALL.out j hjm
                  · rw [show j = m by omega, hq, HFJ.out, HFI.out])
                generalize wr.drewN nq = w9 at hj9 hk9 ⊢
                clear e0 e1 e2 e3 cx hjy hky hszy EQ
                gi_wp2
                go_roundw
                case rel => exact ⟨m + 1, by omega, by omega, by go_num, HA2, hide (fun h => absurd h k3), hj9, hk9⟩
                case measure => simp [intOf]; omega
              · have t1 : (kj == ki && mj == mi) = false := by simpa using hje
                rw [t1]
                have HNE := hide (show f q ≠ f i by rw [HFJ.out, HFI.out]; intro h; injection h with h1 h2; exact hje ⟨h1, h2⟩)
                clear e2 e3 EQ t1
                have hj9 := ab_only0 hJ hjy ((Only.refl [] wr).drewN nq)
                have hk9 := hide (hky.out.trans (Kq.only0 ((Only.refl [] wr).drewN nq) (by omega)))
                generalize wr.drewN nq = w9 at hj9 hk9 ⊢
                have HSTEP := HST.out m hlt (by rw [HFI.out]; exact HM.out) m1 (by omega) HALL.out (fun h => absurd (show ki = 3 by rw [HFI.out] at h; exact h) k3) (fun _ => .inr (by rw [hq]; exact HNE.out))
                have HP2 := HP.out
                rw [HSTEP, hq, HFI.out] at HP2
                have hlen9 : pre.length < (strF (evL len f)).length := by rw [HP2]; simp
                have HP3 := hide HP2
                clear HSTEP HP2 e0 e1 cx hjy hky hszy
                have cx : w9.cell? ⟨bx, 0, none⟩ = some (.slice (some a) len c) := ((hk9.out.blk hbx HB.out).cell 0).trans rfl
                obtain ⟨a5, eA, e0, e1⟩ := (HE.out.kq HA.out hk9.out) i hlt
                injection eA with eA
                subst eA
                rw [HFI.out] at e0 e1
                simp only at e0 e1
                obtain ⟨fn, tmps, assign, body, hy, hRo⟩ := hY pre ⟨⟨ki, mi⟩, m⟩ w9 hj9 hlen9
                dsimp only at hy
                gi_wp2
                refine hRo.mono ?_
                rintro e W3 (⟨rfl, hJ3, hk3⟩ | ⟨rfl, hJx3⟩)
                · have hkk := hide (hk9.out.trans hk3)
                  gi_wp2
                  go_roundw
                  case rel => exact ⟨q, _, by omega, by go_num, by rw [HP3.out]; simp, hJ3, hkk⟩
                  case measure => simp [intOf]; omega
                · gi_wp2
                  refine bodyPost_ret (results_none rfl _ _ _) rfl ?_
                  exact ⟨⟨_, rfl⟩, .inr ⟨pre ++ [⟨⟨ki, mi⟩, m⟩], by rw [HP3.out]; exact ⟨strF ((evL len f).drop q), by simp⟩, hJx3⟩⟩
            · have d1 : decide ((q : Int) < (len : Int)) = false := decide_eq_false (by omega)
              have d1' : ¬ (q : Int) < (len : Int) := by omega
              clear hall h3
              gi_wp2
              gi_quiet (fail)
              have hj9 := ab_only0 hJ hjy ((Only.refl [] wr).drewN nq)
              have hk9 := hide (hky.out.trans (Kq.only0 ((Only.refl [] wr).drewN nq) (by omega)))
              generalize wr.drewN nq = w9 at hj9 hk9 ⊢
              have HSTEP := HST.out m hlt (by rw [HFI.out]; exact HM.out) m1 (by omega) HALL.out (fun h => absurd (show ki = 3 by rw [HFI.out] at h; exact h) k3) (fun _ => .inl (by omega))
              have HP2 := HP.out
              rw [HSTEP, hq, HFI.out] at HP2
              have hlen9 : pre.length < (strF (evL len f)).length := by rw [HP2]; simp
              have HP3 := hide HP2
              clear HSTEP HP2 e0 e1 cx hjy hky hszy
              have cx : w9.cell? ⟨bx, 0, none⟩ = some (.slice (some a) len c) := ((hk9.out.blk hbx HB.out).cell 0).trans rfl
              obtain ⟨a5, eA, e0, e1⟩ := (HE.out.kq HA.out hk9.out) i hlt
              injection eA with eA
              subst eA
              rw [HFI.out] at e0 e1
              simp only at e0 e1
              obtain ⟨fn, tmps, assign, body, hy, hRo⟩ := hY pre ⟨⟨ki, mi⟩, m⟩ w9 hj9 hlen9
              dsimp only at hy
              gi_wp2
              refine hRo.mono ?_
              rintro e W3 (⟨rfl, hJ3, hk3⟩ | ⟨rfl, hJx3⟩)
              · have hkk := hide (hk9.out.trans hk3)
                gi_wp2
                go_roundw
                case rel => exact ⟨q, _, by omega, by go_num, by rw [HP3.out]; simp, hJ3, hkk⟩
                case measure => simp [intOf]; omega
              · gi_wp2
                refine bodyPost_ret (results_none rfl _ _ _) rfl ?_
                exact ⟨⟨_, rfl⟩, .inr ⟨pre ++ [⟨⟨ki, mi⟩, m⟩], by rw [HP3.out]; exact ⟨strF ((evL len f).drop q), by simp⟩, hJx3⟩⟩
    · obtain rfl : i = len := by omega
      have hend : strF ((evL i f).drop i) = [] := strF_stop (.inl (Nat.le_refl _))
      rw [hend, List.append_nil] at hpre
      have HP := hide hpre
      clear hpre hend
      gi_wp2_with (refine ⟨trivial, ?_⟩)
      go_end0
      exact ⟨⟨_, rfl⟩, .inl ⟨pre, HP.out.symm, hj⟩⟩
theorem str_stopsq {w : World} (n bx N len c : Nat) (A : Option Addr) (f : Nat → Ev) (hn : 1 ≤ n) (hlen : len ≤ 1000000) (hN : N ≤ w.heap.size) (hbx : bx < w.heap.size) (hA : EvLt A N) (hE : EvAt w A len f) (hb : Blk w bx 27 #[.slice A len c]) :
    SeqStopsK Fence.wide n Tryz.prog 36 #[.pointer (some ⟨bx, 0, none⟩)] (fun x : Str => #[Value.agg #[.int .i64 x.ev.kind, .int .i64 x.ev.num, .int .i64 x.n]]) (Kq N bx) (fun ys => ys = strF (evL len f)) (fun pre => pre <+: strF (evL len f)) (strF (evL len f)).length w := by
  intro l J Jx W hW hJ hJx hY h0
  have hsz := hW.size
  exact str1q_in n l bx N len c A f hn hlen J Jx W hJ hY (by omega) (by omega) hA (hE.only0 (only_of_below hW)) (hb.below hW hb.lt) h0
end Go.Proofs.YteblhklclcjonaaGreatDoor
namespace Go.Proofs.YteblhklclcjonaaGreatDoor
open Go.RowKit Go.Shelf
set_option linter.unusedVariables false
set_option linter.all false
set_option maxRecDepth 100000
attribute [local go_sem] Oper.semAt_some

theorem stext_bad (J : Jb) (A : Option Addr) (n c : Nat) (f : Nat → Ev) (w : World) (hJ : JbAt w J) (hE : EvAt w A n f) (hn : n ≤ maxLen) (h : (chkE J n f).2 ≠ 0) : Calls Tryz.prog 23 #[.agg (sc9 J A n c)] w fun e w' => e = .returned (.tuple #[.string ⟨#[]⟩, .int .i64 (chkE J n f).2]) ∧ Only [] w w' := by
  have B1 := hide (Blk.new w 54 (sc9 J A n c))
  have O1 := hide ((Only.refl [] w).alloc (.cells (sc9 J A n c) 54))
  have CK := hide (fun W (o : Only [] w W) => scheck_any J A n c f W (jb_only0 hJ o) (hE.only0 o) hn)
  obtain ⟨r, hr⟩ : ∃ r, chkE J n f = r := ⟨_, rfl⟩
  obtain ⟨ri, re⟩ := r
  rw [hr] at h ⊢
  simp only [hr] at CK
  unfold sc9 at B1 O1 CK
  unfold sc9
  have x0 := B1.out.cell 0; have x1 := B1.out.cell 1; have x2 := B1.out.cell 2; have x3 := B1.out.cell 3; have x4 := B1.out.cell 4; have x5 := B1.out.cell 5; have x6 := B1.out.cell 6; have x7 := B1.out.cell 7; have x8 := B1.out.cell 8
  have b0 : (re != 0) = true := by simpa using h
  clear hJ hE hr h
  go_enter Tryz.func23, Tryz.ntmps23
  go_wp2_with (go_at_call 22; (with_reducible refine (CK.out _ O1.out).mono ?_); rintro e w1 ⟨rfl, o⟩; have O2 := hide (O1.out.trans0 o); clear o)
  go_ret2
  exact ⟨rfl, O2.out⟩
/-- What a round writes. -/
def lnT (x : Str) : List UInt8 := if mayS x then lineT x else []
def acc3 (J : Jb) (pre : List Str) : List UInt8 := jobT J ++ pre.flatMap fun x => lnT x ++ [10]
theorem acc3_next (J : Jb) (pre : List Str) (x : Str) : acc3 J (pre ++ [x]) = acc3 J pre ++ (lnT x ++ [10]) := by simp [acc3]
theorem lnT_len (x : Str) : (lnT x).length ≤ 32 := by
  unfold lnT
  cases h : mayS x with
  | true => simp only [if_true]; exact (lineT_facts h).2.1
  | false => simp
theorem acc3_len {J : Jb} (h : GoodJ J) (pre : List Str) : (acc3 J pre).length ≤ 1200000 + 33 * pre.length := by
  have h0 := acc2_len h (Nat.le_refl J.tn)
  have : ∀ l : List Str, (l.flatMap fun x => lnT x ++ [10]).length ≤ 33 * l.length := by
    intro l
    induction l with
    | nil => simp
    | cons x l ih =>
      have := lnT_len x
      simp only [List.flatMap_cons, List.length_append, List.length_cons, List.length_nil]
      omega
  have := this pre
  unfold acc3
  rw [show jobT J = acc2 J J.tn from rfl]
  simp only [List.length_append]
  omega
theorem acc3_all {J : Jb} {n : Nat} {f : Nat → Ev} (h : GoodJE J n f) : acc3 J (strF (evL n f)) = scrT J n f := by
  unfold acc3 scrT
  congr 1
  have hm : ∀ x ∈ strF (evL n f), mayS x = true := fun x hx => (strF_may _ (by rw [evL_len]; exact h.len) x hx).1
  generalize strF (evL n f) = l at hm
  induction l with
  | nil => rfl
  | cons x l ih =>
    have e1 : strB (x :: l) = (lineT x ++ [10]) ++ strB l := by simp [strB]
    have e2 : lnT x = lineT x := by unfold lnT; rw [hm x (by simp)]; rfl
    rw [List.flatMap_cons, ih (fun y hy => hm y (by simp [hy])), e1, e2]
theorem ko_of_keepn {b : Nat} {w w' : World} (h : KeepN b w w') (hs : w.heap.size ≤ w'.heap.size) (hb : ∃ cs t q, w.heap[b]? = some (.cells cs t q)) : KeepsOthers w w' :=
  ⟨hs, fun k o hk hc => (h k (Array.getElem?_eq_some_iff.1 hk).1 (fun e => by
    subst e
    obtain ⟨cs, t, q, e⟩ := hb
    rw [e] at hk
    cases hk
    simp [Obj.isCells] at hc) (fun cs e => by
    rw [e] at hk
    cases hk
    simp [Obj.isCells] at hc)).trans hk⟩
theorem Bd.cells {w : World} {B b : Nat} {l : List UInt8} (h : Bd w B b l) : ∃ cs t q, w.heap[b]? = some (.cells cs t q) := by
  rcases h with ⟨hB, v, hb, hown, hne⟩ | ⟨hB, v, hb, hown, hne⟩ <;> exact ⟨_, _, _, hb⟩
theorem own_turnv {W W' : World} {row : Option Nat} {base size n : Nat} {e : TypeId} {v : Value} {xs : List Value} (h : W.ownsRow base e size v n xs) (hg : W.grownBy W' row) (hr : ∀ r, row = some r → ∃ o : Obj, W.heap[r]? = some o ∧ o.isCells = false) : W'.ownsRow base e size v n xs := by
  obtain ⟨A, c, rfl⟩ : ∃ A c, v = .slice A n c := by
    rcases h.2 with ⟨hv, h0⟩ | ⟨g, cap, cur, hv, _⟩
    · exact ⟨none, 0, by rw [hv, h0]⟩
    · exact ⟨_, _, hv⟩
  exact own_turn h hg hr
theorem Bd.turn {W W' : World} {row : Option Nat} {B b : Nat} {l : List UInt8} (h : Bd W B b l) (hg : W.grownBy W' row) (hr : ∀ r, row = some r → ∃ o : Obj, W.heap[r]? = some o ∧ o.isCells = false) : Bd W' B b l := by
  rcases h with ⟨hB, v, hb, hown, hne⟩ | ⟨hB, v, hb, hown, hne⟩
  · exact .inl ⟨hB, v, blk_turn (g := b) hb hg hr, own_turnv hown hg hr, hne⟩
  · exact .inr ⟨hB, v, blk_turn (g := b) hb hg hr, own_turnv hown hg hr, hne⟩
/-- A builder is read: nothing turns but bytes' rows. -/
theorem string_k (b : Nat) (l : List UInt8) (w : World) (h : Bd w b b l) (hBw : b ≤ w.heap.size) : Calls Tryz.prog 43 #[.pointer (some ⟨b, 0, none⟩)] w fun e w' => e = .returned (.string (bs l)) ∧ Below b w w' ∧ ∀ (k : Nat) (o : Obj), w.heap[k]? = some o → o.isCells = false → w'.heap[k]? = some o := by
  refine (Tryz.Builder_String_any_k b b l w (Lib.IsBuilderF.of h) hBw).mono ?_
  rintro e w' ⟨rfl, -, h2, h3⟩
  refine ⟨rfl, h2, fun k o hk ho => ?_⟩
  refine h3 k o hk (fun e => ?_) (fun c fz e => ?_)
  · obtain ⟨cs, t, q, hc⟩ := h.cells
    injection e with e
    subst e
    rw [hc] at hk
    cases hk
    simp [Obj.isCells] at ho
  · subst e
    simp [Obj.isCells] at ho
theorem blen_any (b : Nat) (l : List UInt8) (w : World) (h : Bd w b b l) : Calls Tryz.prog 42 #[.pointer (some ⟨b, 0, none⟩)] w fun e w' => e = .returned (.int .i64 l.length) ∧ w' = w := by
  have hl : (Lib.byteCells l).length = l.length := by simp [Lib.byteCells]
  obtain ⟨p, A, cap, hb⟩ : ∃ p A cap, Blk w b 88 #[p, .slice A l.length cap] := by
    rcases h with ⟨hB, v, hb, hown, hne⟩ | ⟨hB, v, hb, hown, hne⟩
    · rcases hown.2 with ⟨hv, h0⟩ | ⟨g, cap, cur, hv, _⟩
      · rw [hl] at h0; exact ⟨_, none, 0, by rw [hv] at hb; rw [h0]; exact hb⟩
      · exact ⟨_, _, _, by rw [hv, hl] at hb; exact hb⟩
    · rcases hown.2 with ⟨hv, h0⟩ | ⟨g, cap, cur, hv, _⟩
      · rw [hl] at h0; exact ⟨_, none, 0, by rw [hv] at hb; rw [h0]; exact hb⟩
      · exact ⟨_, _, _, by rw [hv, hl] at hb; exact hb⟩
  have c1 := hb.cell 1
  clear h hb
  go_enter Tryz.func42, Tryz.ntmps42
  go_wp2_with fail
  go_ret
  exact ⟨rfl, rfl⟩
/-- Text's frame behind an assignment of its loop. -/
def TF (J : Jb) (A : Option Addr) (n c X b Z bz : Nat) (s1 : ByteArray) (v : Value) : Array Value := #[.agg #[.int .i64 J.t, .int .i64 J.o, .int .i64 J.s, .int .i64 J.q, .int .i64 J.m, .int .i64 J.p, .slice J.pA J.pn J.pc, .slice J.tA J.tn J.tc, .slice A n c], .pointer (some ⟨X, 0, none⟩), .string ⟨#[]⟩, .int .i64 0, .int .i64 0, .int .i64 0, .string s1, .int .i64 0, .pointer (some ⟨b, 0, none⟩), .pointer (some ⟨bz, 0, none⟩), undef, undef, .tuple #[.int .i64 0, .int .i64 0], .agg #[.int .i64 J.t, .int .i64 J.o, .int .i64 J.s, .int .i64 J.q, .int .i64 J.m, .int .i64 J.p, .slice J.pA J.pn J.pc, .slice J.tA J.tn J.tc, .slice A n c], .tuple #[.int .i64 0, .int .i64 0], .int .i64 0, .int .i64 0, .int .i64 0, .bool false, undef, .tuple #[.string s1, .int .i64 0], .pointer (some ⟨X, 0, none⟩), .agg #[.int .i64 J.t, .int .i64 J.o, .int .i64 J.s, .int .i64 J.q, .int .i64 J.m, .int .i64 J.p, .slice J.pA J.pn J.pc, .slice J.tA J.tn J.tc], .tuple #[.string s1, .int .i64 0], .string s1, .int .i64 0, .string s1, .tuple #[.int .i64 s1.size, .nilIface], .pointer (some ⟨X, 8, none⟩), .slice A n c, .func (.func 36) #[] #[.pointer (some ⟨Z, 0, none⟩)], v, undef, undef, undef, undef, undef, undef, undef, undef, undef, undef, undef]
set_option maxHeartbeats 8000000 in
theorem stext_good (J : Jb) (A : Option Addr) (n c : Nat) (f : Nat → Ev) (w : World) (he : Env w) (hJ : JbAt w J) (hE : EvAt w A n f) (hA : EvLt A w.heap.size) (hg : GoodJE J n f) : Calls Tryz.prog 23 #[.agg (sc9 J A n c)] w fun e w' => e = .returned (.tuple #[.string (bs (scrT J n f)), .int .i64 0]) ∧ Only [] w w' := by
  have hfin := acc3_all hg
  have hsl : (scrT J n f).length ≤ 1048576 := by rw [scrT_B]; exact scrB_all (good_sc hg)
  have hnl := hg.len
  have CK := fun W (o : Only [] w W) => scheck_any J A n c f W (jb_only0 hJ o) (hE.only0 o) (by unfold maxLen; omega)
  rw [zero_chk hg] at CK
  have CK := hide CK
  have SJ := fun W (o : Only [] w W) => sjob_good J W (he.only o) (jb_only0 hJ o) hg.job
  have SG := fun W => stretches_any A n c W
  have HG := hide hg.job
  have HE := hide he
  have hjl := acc3_len hg.job []
  have hj0 : acc3 J [] = jobT J := by simp [acc3]
  rw [hj0] at hjl
  have WR := fun b W (hh : Bd W b b []) (hs : b ≤ W.heap.size) => writes_any b b [] (bs (jobT J)) W hh (by rw [bs_size]; simp at hjl ⊢; omega) hs
  rw [bs_list, List.nil_append, ← hj0] at WR
  rw [← hj0] at SJ
  obtain ⟨s1, hs1⟩ : ∃ x, bs (acc3 J []) = x := ⟨_, rfl⟩
  rw [hs1] at SJ WR
  have SJ := hide SJ
  have WR := hide WR
  have B1 := hide (Blk.new w 54 (sc9 J A n c))
  have O1 := hide ((Only.refl [] w).alloc (.cells (sc9 J A n c) 54))
  unfold sc9 at B1 O1 CK
  unfold jobV at SJ
  unfold sc9
  obtain ⟨X, hX⟩ : ∃ X, w.heap.size = X := ⟨_, rfl⟩
  rw [hX] at B1
  have x0 := B1.out.cell 0; have x1 := B1.out.cell 1; have x2 := B1.out.cell 2; have x3 := B1.out.cell 3; have x4 := B1.out.cell 4; have x5 := B1.out.cell 5; have x6 := B1.out.cell 6; have x7 := B1.out.cell 7; have x8 := B1.out.cell 8
  obtain ⟨L, hL⟩ : ∃ L, strF (evL n f) = L := ⟨_, rfl⟩
  rw [hL] at hfin
  rw [← hfin] at hsl ⊢
  have hLl : L.length ≤ 8192 := by rw [← hL]; have := strF_len (evL n f); rw [evL_len] at this; omega
  clear hJ hj0 hs1 he hfin
  refine (callsIn_wide (n := 8)).1 ?_
  refine callsIn_of_wp_marks Tryz.func23 rfl trivial ?_ rfl
  simp only [Tryz.ntmps23, List.size_toArray, List.length_cons, List.length_nil, Nat.reduceAdd, Nat.reduceSub, Array.replicate_succ, Array.replicate_zero, List.push_toArray, List.append_toArray, List.nil_append, List.cons_append]
  refine wpIn_wide.2 ?_
  go_wp2_with (first
    | (go_at_call 22; (with_reducible refine (CK.out _ O1.out).mono ?_); rintro e w1 ⟨rfl, o⟩; have B2 := hide (B1.out.only o (by simp)); have O2 := hide (O1.out.trans0 o); have y0 := B2.out.cell 0; have y1 := B2.out.cell 1; have y2 := B2.out.cell 2; have y3 := B2.out.cell 3; have y4 := B2.out.cell 4; have y5 := B2.out.cell 5; have y6 := B2.out.cell 6; have y7 := B2.out.cell 7; clear o)
    | (go_at_call 24; (with_reducible refine (SJ.out _ O2.out).mono ?_); rintro e w2 ⟨rfl, o⟩; have B3 := hide (B2.out.only o (by simp)); have O3 := hide (O2.out.trans0 o); have BN := hide (Bd.new w2 w2.heap.size (Nat.le_refl _)); have hXl := B3.out.lt; have hvs := World.size_alloc w2 (.cells #[.pointer none, .slice none 0 0] 88); clear o))
  obtain ⟨b, hb⟩ : ∃ b, w2.heap.size = b := ⟨_, rfl⟩
  rw [hb] at BN hXl hvs
  simp only [hb]
  obtain ⟨V, hV⟩ : ∃ V, w2.alloc (.cells #[.pointer none, .slice none 0 0] 88) = V := ⟨_, rfl⟩
  have OV := hide (show Only [] w V by rw [← hV]; exact O3.out.alloc _)
  have BV := hide (show Blk V X 54 _ by rw [← hV]; exact B3.out.alloc _)
  rw [hV] at BN hvs ⊢
  have hwX : w.heap.size ≤ b := by omega
  clear hV hb CK SJ x0 x1 x2 x3 x4 x5 x6 x7 x8 y0 y1 y2 y3 y4 y5 y6 y7 O1 O2 O3 B1 B2 B3
  go_wp2_with (first
    | (go_at_call 41; (with_reducible refine (WR.out b _ BN.out (by omega)).mono ?_); rintro e w3 ⟨rfl, h3, b3, k3⟩; have HB3 := hide h3; have BE3 := hide b3; have BX3 := hide (BV.out.below b3 hXl); have u8 := BX3.out.cell 8; clear h3 b3 k3)
    | (go_at_call 17; (with_reducible refine (SG _).mono ?_); rintro e w4 ⟨rfl, hw⟩; obtain rfl := hw.symm; clear hw))
  obtain ⟨Z, hZ⟩ : ∃ Z, w3.heap.size = Z := ⟨_, rfl⟩
  have bZ := Blk.new w3 27 #[.slice A n c]
  have o7 := (Only.refl [] w3).alloc (.cells #[.slice A n c] 27)
  have hs7 : (w3.alloc (.cells #[.slice A n c] 27)).heap.size = Z + 1 := by simp [hZ]
  have hs3 := BE3.out.size
  rw [hZ] at bZ hs3
  simp only [hZ]
  obtain ⟨W7, hW7⟩ : ∃ W7, w3.alloc (.cells #[.slice A n c] 27) = W7 := ⟨_, rfl⟩
  rw [hW7] at bZ o7 hs7 ⊢
  have hbZ : b < Z := by omega
  have HB7 := HB3.out.only0 o7
  have BE7 := BE3.out.trans (o7.below.mono (by rw [hZ]; omega))
  have hE7 := hE.only0 (only_bel OV.out BE7 hwX)
  have hA7 : EvLt A b := fun a e => by have := hA a e; omega
  have ST := str_stopsq (w := W7) 7 Z b n c A f (by decide) (by omega) (by omega) (by omega) hA7 hE7 bZ
  rw [hL] at ST
  clear hW7 hL hE hE7 SG WR HB3 BE3 BX3 u8 o7 BN hZ hA
  refine (wpIn_wide (n := 8)).1 ?_
  refine' wpIn_rangeFunc_ownH (F := Fence.wide) (n := 8) rfl (by decide) (gf := 36) (lb := #[.pointer (some ⟨Z, 0, none⟩)]) rfl trivial (enters_of Tryz.func36 (by kernel_rfl) rfl)
    ST (fun h k => h.trans k) (fun W l o o' hl h hc hw => Kq.putObj W l o o' (by omega)) (Below.refl _ _) (fun _ => rfl)
    (fun pre W => Bd W b b (acc3 J pre) ∧ Below b V W ∧ Blk W Z 27 #[.slice A n c])
    (fun c pre W => False)
    (fun s A B row hs hg hr => by
      obtain ⟨h1, h2, h3⟩ := hs
      have := h2.size
      exact ⟨h1.turn hg (fun r e => (hr r e).2), h2.grown hg (by omega) (fun k e => by have := (hr k e).1; omega), blk_turn h3 hg (fun r e => (hr r e).2)⟩)
    (fun c s A B row hs hg hr => hs.elim)
    ⟨HB7, BE7, bZ⟩ (fun x a' W => ∃ bz v, a' = { tmps := TF J A n c X b Z bz s1 v, defers := [] } ∧ Blk W bz 26 #[.int .i64 x.ev.kind, .int .i64 x.ev.num, .int .i64 x.n])
    (fun x a' s A B row hs hg hr => by obtain ⟨bz, v, hv, hz⟩ := hs; exact ⟨bz, v, hv, blk_turn hz hg (fun r e => (hr r e).2)⟩) ?assign ?body ?done ?stop
  case assign =>
    rintro l pre x W K ⟨h1, h2, h3⟩ hK
    gi_wp2
    have oo := (Only.refl [] W).alloc (.cells #[.int .i64 x.ev.kind, .int .i64 x.ev.num, .int .i64 x.n] 26)
    have hlt := h3.lt
    exact hK _ _ (kf_only0 oo) (Kq.only0 oo (by omega)) ⟨h1.only0 oo, h2.trans (oo.below.mono (by omega)), h3.only oo (by simp)⟩ ⟨W.heap.size, _, rfl, Blk.new W 26 _⟩
  case body =>
    rintro l pre x a' W hl0 ⟨r0, hr0⟩ ⟨hB, hO, hZ⟩ ⟨bz, v, rfl, hz⟩ hlt
    try dsimp only
    unfold TF
    have O := hide (only_bel OV.out hO hwX)
    have cz0 := hz.cell 0
    have cz1 := hz.cell 1
    have cz2 := hz.cell 2
    have hpl : pre.length ≤ 8192 := by omega
    have hal := acc3_len HG.out pre
    have hll := lnT_len x
    have hst := hide (acc3_next J pre x)
    have SL := sline_any x.ev.kind x.ev.num x.n W (HE.out.only O.out)
    have h1 : (if mayS ⟨⟨x.ev.kind, x.ev.num⟩, x.n⟩ then bs (lineT ⟨⟨x.ev.kind, x.ev.num⟩, x.n⟩) else bs []) = bs (lnT x) := by
      show (if mayS x then bs (lineT x) else bs []) = bs (if mayS x then lineT x else [])
      split <;> rfl
    rw [h1] at SL
    obtain ⟨er, her⟩ : ∃ er, (if mayS ⟨⟨x.ev.kind, x.ev.num⟩, x.n⟩ then (0 : Int) else 2) = er := ⟨_, rfl⟩
    rw [her] at SL
    have hcat : bs (lnT x) ++ (⟨#[10]⟩ : ByteArray) = bs (lnT x ++ [10]) := bs_cat (lnT x) [10]
    have z1 : ¬ 9223372036854775807 < (bs (lnT x)).size + (⟨#[10]⟩ : ByteArray).size := by rw [bs_size, show (⟨#[10]⟩ : ByteArray).size = 1 from rfl]; omega
    have WR2 := hide (fun W1 (hh : Bd W1 b b (acc3 J pre)) (hs : b ≤ W1.heap.size) => writes_any b b (acc3 J pre) (bs (lnT x ++ [10])) W1 hh (by rw [bs_size]; simp; omega) hs)
    rw [bs_list, ← hst.out] at WR2
    obtain ⟨s3, hs3⟩ : ∃ x1, bs (lnT x) = x1 := ⟨_, rfl⟩
    obtain ⟨s4, hs4⟩ : ∃ x1, bs (lnT x ++ [10]) = x1 := ⟨_, rfl⟩
    rw [hs3] at SL hcat z1
    rw [hs4] at hcat WR2
    have SL := hide SL
    have hws := hO.size
    have hbw : b ≤ W.heap.size := by omega
    have HZ := hide hZ
    have HO := hide hO
    have HBW := hide hB
    clear hz h1 her hs3 hs4 hal hll hr0 hZ hO hB hlt hpl
    gi_wp2_with (first
      | (refine ⟨trivial, ?_⟩; gi_at_call 8; refine (callsIn_wide.2 SL.out).mono ?_; rintro e w5 ⟨rfl, o5⟩; have O5 := hide o5; have HB5 := hide (HBW.out.only0 o5); have hs5 := o5.size; clear o5)
      | (refine ⟨trivial, ?_⟩; gi_at_call 41; refine (callsIn_wide.2 (WR2.out _ HB5.out (by omega))).mono ?_; rintro e w6 ⟨rfl, h6, b6, k6⟩; have HB6 := hide h6; have BE6 := hide b6; have K6 := hide k6; have hs6 := b6.size; clear h6 b6 k6))
    have hZ5 := HZ.out.only O5.out (by simp)
    have hkZ := K6.out Z hZ5.lt (by omega) (fun cs e => Blk.ne_ hZ5 e (by decide) rfl)
    have hZlt := HZ.out.lt
    refine ⟨KeepsFrom.trans (kf_only0 O5.out) ((ko_of_keepn K6.out hs6 HB5.out.cells).from _), (Kq.only0 O5.out (by omega)).trans ⟨hs6, fun k hk => ?_⟩, HB6.out, (HO.out.trans (O5.out.below.mono hbw)).trans BE6.out, hkZ.trans hZ5⟩
    rcases hk with hk | rfl
    · exact BE6.out.block k hk
    · exact hkZ
  case done =>
    rintro D ys V1 hDa rfl ⟨hB, hO, hZ⟩ hK1
    have hszl : (acc3 J ys).length ≤ 1048576 := hsl
    have d1 : decide ((1048576 : Int) < ((acc3 J ys).length : Int)) = false := decide_eq_false (by omega)
    have d2 : decide (1048576 < (acc3 J ys).length) = false := decide_eq_false (by omega)
    have BL := hide (fun W (h : Bd W b b (acc3 J ys)) => blen_any b (acc3 J ys) W h)
    have hbw : b ≤ V1.heap.size := by have := hO.size; omega
    have SR := hide (string_k b (acc3 J ys) V1 hB hbw)
    have HB := hide hB
    have HO := hide hO
    have KD := hide hK1
    clear hB hO hZ hK1
    gi_wp2
    go_wp2_with (first
      | (go_at_call 42; (with_reducible refine (BL.out _ HB.out).mono ?_); rintro e w5 ⟨rfl, hw⟩; obtain rfl := hw.symm; clear hw)
      | (go_at_call 43; (with_reducible refine SR.out.mono ?_); rintro e w6 ⟨rfl, b6, k6⟩; have BE6 := hide b6; have KD6 := hide (k6 D _ KD.out rfl); clear b6 k6))
    refine ⟨by simp, .inl ⟨_, _, rfl, run_takeDeferred KD6.out, ?_⟩⟩
    have hgr := grownBy_putObj' w6 D (.deferred none)
    refine ⟨.tuple #[.string (bs (acc3 J ys)), .int .i64 0], by simp [results, Tryz.results23, Tryz.f23, go_sem], rfl, ?_⟩
    exact (only_bel OV.out (HO.out.trans BE6.out) hwX).grown hgr (fun k e => by cases e; exact .inr (by omega))
  case stop =>
    rintro D cc pre V1 hDb hpre hf
    exact hf.elim
end Go.Proofs.YteblhklclcjonaaGreatDoor
