/- WireReads: the walk. No condition but at most 1048576 bytes. -/
import Derived.Test.YtdaeaepfbnlaeaaWi15
import Derived.Laws.Concat
namespace Go.Proofs.Ytdaeaepfbnlaeaa
open Go.RowKit
set_option linter.unusedVariables false
set_option linter.all false
set_option maxRecDepth 20000
attribute [local go_sem ↓] app_hide

theorem run_add_one (ds : List UInt8) (x : UInt8) (w : World) (h : ds.length ≤ 140737488351300) : (Op.stringOp .add ⟨ds.toArray⟩ ⟨#[x]⟩).run Try.prog w = .ok (.string ⟨(ds ++ [x]).toArray⟩) w := by
  have e : (⟨#[x]⟩ : ByteArray) = ByteArray.mk [x].toArray := rfl
  rw [e, run_string_add_sum w _ _ (by simp [ByteArray.size]; omega), ByteArray.mk_append_mk]
/-- own := append(append([]byte(nil), data...), x). -/
theorem run_own (dA : Option Addr) (dn dc : Nat) (ds : List UInt8) (x : UInt8) (y : Int) (hy : y = x.toNat) (w : World) (hl : ds.length = dn) (hn : dn ≤ 140737488351300) (hs : Src w dA ds) :
    ∃ (A1 : Option Addr) (c1 : Nat) (w1 : World) (g' cap' : Nat) (w2 : World), (AppH #[23, 23] 23 #[.slice none 0 0, .slice dA dn dc]).run Try.prog w = .ok (.slice A1 dn c1) w1 ∧
      (AppH #[23, 23] 23 #[.slice A1 dn c1, .slice (some ⟨w1.heap.size, 0, none⟩) 1 1]).run Try.prog (w1.alloc (.cells #[.int .u8 y] 5)) = .ok (.slice (some ⟨g', 0, none⟩) (dn + 1) cap') w2 ∧
      Only [] w w2 ∧ w2.ownsRow w.heap.size 5 1 (.slice (some ⟨g', 0, none⟩) (dn + 1) cap') (dn + 1) (U8s (ds ++ [x])) := by
  obtain ⟨A1, c1, w1, hr1, h1, o1, _, _⟩ := run_app_src w.heap.size none 0 0 [] dA dn dc ds w ⟨rfl, .inl ⟨rfl, rfl⟩⟩ hl hs (by omega) (Nat.le_refl _)
  rw [Nat.zero_add] at hr1 h1
  rw [List.nil_append] at h1
  have o1' : Only [] w w1 := o1.mono (by simp [blkOf])
  obtain ⟨g', cap', w2, hr2, h2, o2, _⟩ := app_one w.heap.size A1 dn c1 ds x y hy w1 h1 (by omega) o1'.size
  exact ⟨A1, c1, w1, g', cap', w2, hr1, hr2, o1'.trans o2 (fun x hx => .inr (own_ge h1 x hx).1), h2⟩

/-- The law's script: two ints a step. -/
def Ops (w : World) (A : Option Addr) (n : Nat) : Prop := ∀ k, k < n → ∃ (a : Addr) (kd most : Int), A = some a ∧ most ≤ 9223372036854775807 ∧ w.cell? (a.add (k * 2)) = some (.int .i64 kd) ∧ w.cell? ⟨(a.add (k * 2)).block, (a.add (k * 2)).off + 1, none⟩ = some (.int .i64 most)
theorem Ops.only0 {w w' : World} {A : Option Addr} {n : Nat} (h : Ops w A n) (ho : Only [] w w') : Ops w' A n := fun k hk => by
  obtain ⟨a, kd, most, rfl, hm, h0, h1⟩ := h k hk
  exact ⟨a, kd, most, rfl, hm, ho.keep0 h0, ho.keep0 h1⟩

set_option maxHeartbeats 4000000 in
theorem reads_any (bA : Option Addr) (bn bc : Nat) (bs : List UInt8) (sA : Option Addr) (sn sc : Nat) (w : World) (hbl : bs.length = bn) (hbm : bn ≤ 1048576) (hbs : Src w bA bs) (hbc : bn ≤ bc) (hbo : 0 < bs.length → ∀ ad, bA = some ad → ad.block < w.heap.size) (hsA : Ops w sA sn) :
    Calls Try.prog 6 #[.slice bA bn bc, .slice sA sn sc] w fun e w' => e = .returned (.bool true) ∧ Only [] w w' := by
  obtain ⟨A1, c1, w1, gm, cm, w2, hr1, hr2, o2, hown⟩ := run_own bA bn bc bs 165 165 rfl w hbl (by omega) hbs
  have hsx : Src w2 (some ⟨gm, 0, none⟩) (bs ++ [165]) := Src.own hown
  have hsd : Src w2 (some ⟨gm, 0, none⟩) bs := fun hp => by
    obtain ⟨ad, he, hc⟩ := hsx (by simp)
    refine ⟨ad, he, fun j u hj => hc j u ?_⟩
    have hjl : j < (U8s bs).length := (List.getElem?_eq_some_iff.1 hj).1
    rw [← u8s_append, List.getElem?_append_left hjl]
    exact hj
  have hcm := own_cap hown
  have hgm := own_ge hown gm (by simp [blkOf])
  have sl0 : (0 : Int) ≤ (bn : Int) := by omega
  have sl1 : (bn : Int) ≤ (cm : Int) := by omega
  have HX := hide hsx
  have HD := hide hsd
  have HB := hide hbs
  have HL := hide hbl
  have HO := hide hown
  have HBO := hide hbo
  have HOP := hide hsA
  clear hsx hsd hbs hbl hown hbo hsA
  go_enter Try.func6, Try.ntmps6
  go_wp2_with fail
  refine (open_any (some ⟨gm, 0, none⟩) bn cm bs w2 HL.out (by omega) HD.out).mono ?_
  rintro e w3 ⟨o3, g, gb, cap, rfl, hR, hg, hgb⟩
  have a3 := o2.trans0 o3
  have e1 := run_str_any (some ⟨gm, 0, none⟩) (bn + 1) cm (bs ++ [165]) w3 (by rw [List.length_append, HL.out]; rfl) (HX.out.only0 o3)
  have e2 := run_str_any bA bn bc bs w3 HL.out (HB.out.only0 a3)
  have e3 := run_add_one bs 165 w3 (by rw [HL.out]; omega)
  have HSP := hide (spoil_any w.heap.size (some ⟨gm, 0, none⟩) (bn + 1) cm _ w3 (own_only' HO.out o3 (by simp)) (by omega) a3.size)
  clear hr1 hr2
  go_wp2_with fail
  refine HSP.out.mono ?_
  rintro e w4 ⟨rfl, o4⟩
  have hR4 := hR.only o4 (by simp [blkOf]; omega) (by simp [blkOf]; omega)
  have a4 : Only [] w w4 := a3.trans o4 (fun x hx => .inr (by simp [blkOf] at hx; omega))
  have hsz4 := a4.size
  have hlt4 := hR4.lt
  clear e1 e2 e3 hR o4 o3 a3 o2
  go_wp2_with fail
  have o5 := (Only.refl [] w4).alloc (.cells #[.slice bA bn bc, .int .i64 0] 61)
  have a5 := a4.trans0 o5
  have hPP : PP (w4.alloc (.cells #[.slice bA bn bc, .int .i64 0] 61)) g gb cap w4.heap.size bA bc bs 0 := by
    refine ⟨hR4.only0 o5, ⟨?_, HB.out.only0 a5, Nat.zero_le _, by rw [HL.out]; omega, fun hp ad had => ?_, by rw [HL.out]; exact hbc⟩, by omega, by omega, fun hp ad had => ?_, by rw [HL.out]; exact hbm⟩
    · rw [HL.out]
      simpa using Blk.new w4 61 #[.slice bA bn bc, .int .i64 0]
    · have := HBO.out hp ad had; omega
    · have h1 := HBO.out hp ad had
      have h2 := own_ge HO.out gm (by simp [blkOf])
      omega
  have hgw : w.heap.size ≤ g := by omega
  generalize hhh : w4.heap.size = hh at hPP ⊢
  generalize w4.alloc (.cells #[.slice bA bn bc, .int .i64 0] 61) = w5 at hPP a5 ⊢
  have hhw : w.heap.size ≤ hh := by omega
  clear hR4 a4 o5 hhh hlt4 hsz4
  go_loopw [8] (fun vi wr => ∃ (k at' : Nat), vi = .int .i64 (k : Int) ∧ k ≤ sn ∧ k ≤ 300 ∧ Only [] w wr ∧ PP wr g gb cap hh bA bc bs at') (fun vi _ => 300 - (intOf vi).toNat)
  case atStart => exact ⟨0, 0, rfl, Nat.zero_le _, by omega, a5, hPP⟩
  case round =>
    clear hPP a5
    obtain ⟨k, at', rfl, hk, hk3, hO, hP⟩ := hrel
    by_cases hlt : k < sn
    · have i1 : (k : Int) < (sn : Int) := by omega
      have i0 : (0 : Int) ≤ (k : Int) := by omega
      by_cases h3 : k < 300
      · have i3 : (k : Int) < 300 := by omega
        obtain ⟨a, kd, most, rfl, hmo, c0, c1'⟩ := (HOP.out.only0 hO) k hlt
        have hst := hide (step_any kd most hmo hP)
        go_wp2_with fail
        refine hst.out.mono ?_
        rintro e w6 ⟨rfl, o6, at2, hP6⟩
        have hO6 : Only [] w w6 := hO.trans o6 (fun x hx => .inr (by simp at hx; omega))
        have hl := left_any hP6.rd
        have hrl := fun n => rleft_any (hP6.rr.only0 ((Only.refl [] _).drewN n))
        have hen := fun n => end_any (hP6.rd.only0 ((Only.refl [] _).drewN n))
        clear hst o6 c0 c1'
        by_cases hend : bs.length ≤ at2
        · simp only [if_pos hend, Nat.sub_eq_zero_of_le hend] at hl hrl hen
          go_wp2_with (first
            | (go_at_call 26; refine hl.mono ?_; rintro e w' ⟨rfl, q1, rfl⟩)
            | (go_at_call 32; refine (hrl _).mono ?_; rintro e w' ⟨rfl, q2, rfl⟩)
            | (go_at_call 25; refine (hen _).mono ?_; rintro e w' ⟨rfl, q3, rfl⟩)
            | (go_at_call 24; refine (num_any _ _).mono ?_; rintro e w' ⟨rfl, rfl⟩))
          go_roundw
          case rel => exact ⟨k + 1, at2, by go_num, by omega, by omega, hO6.drewN _, hP6.only0 ((Only.refl _ _).drewN _)⟩
          case measure => simp [intOf]; omega
        · simp only [if_neg hend] at hen
          obtain ⟨lv, hlv⟩ : ∃ lv : Int, ((bs.length - at2 : Nat) : Int) = lv := ⟨_, rfl⟩
          simp only [hlv] at hl hrl
          have hl0 : (lv == 0) = false := by simp; omega
          clear hlv
          go_wp2_with (first
            | (go_at_call 26; refine hl.mono ?_; rintro e w' ⟨rfl, q1, rfl⟩)
            | (go_at_call 32; refine (hrl _).mono ?_; rintro e w' ⟨rfl, q2, rfl⟩)
            | (go_at_call 25; refine (hen _).mono ?_; rintro e w' ⟨rfl, q3, rfl⟩)
            | (go_at_call 24; refine (num_any _ _).mono ?_; rintro e w' ⟨rfl, rfl⟩))
          go_roundw
          case rel => exact ⟨k + 1, at2, by go_num, by omega, by omega, hO6.drewN _, hP6.only0 ((Only.refl _ _).drewN _)⟩
          case measure => simp [intOf]; omega
      · have d3 : decide ((k : Int) < 300) = false := by simp; omega
        go_wp2_with (go_at_call 18; refine (known_any _).mono ?_; rintro e wk ⟨rfl, ok⟩)
        go_ret
        exact ⟨rfl, hO.trans0 ok⟩
    · have d3 : decide ((k : Int) < (sn : Int)) = false := by simp; omega
      go_wp2_with (go_at_call 18; refine (known_any _).mono ?_; rintro e wk ⟨rfl, ok⟩)
      go_ret
      exact ⟨rfl, hO.trans0 ok⟩
end Go.Proofs.Ytdaeaepfbnlaeaa
