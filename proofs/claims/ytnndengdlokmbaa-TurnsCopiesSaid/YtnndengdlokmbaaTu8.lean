/- Turns: the walks of Leave, Yield, Put, Lift. Condition: the turns lie. -/
import Derived.Test.YtnndengdlokmbaaTu6
namespace Go.Proofs.Ytnndengdlokmbaa
open Go.RowKit
set_option linter.unusedVariables false
set_option linter.all false
set_option maxRecDepth 20000

/-- What turns tell. -/
structure SS where
  q : Nat → List Nat
  rob : Nat → Bool
  lf : Nat → Int
def TS (W : World) (x g : Nat) (Q : Int) (s : SS) (st : Int) : Prop := TT W x g Q s.q s.rob s.lf st
/-- Why a thread can't go elsewhere. -/
def inC (s : SS) (t p : Int) : Int := if ¬ mayT t p then 2 else if prioQ s.q t.toNat = 0 then 6 else 0
def sLeave (s : SS) (t : Int) : SS := if inC s t 1 = 0 then ⟨remQ s.q t.toNat, updb s.rob t.toNat false, upd s.lf t.toNat 0⟩ else s
def sYield (s : SS) (t : Int) : SS := if inC s t 1 = 0 then ⟨moveQ s.q t.toNat (prioQ s.q t.toNat) false, s.rob, s.lf⟩ else s
def sPut (Q : Int) (s : SS) (t p : Int) (rb : Bool) : SS := if inC s t p = 0 then ⟨moveQ s.q t.toNat p.toNat false, updb s.rob t.toNat rb, upd s.lf t.toNat Q⟩ else s
def sMove (s : SS) (t p : Int) : SS := if inC s t p = 0 then ⟨if p.toNat = prioQ s.q t.toNat then s.q else moveQ s.q t.toNat p.toNat (decide (p.toNat < prioQ s.q t.toNat)), s.rob, s.lf⟩ else s
def sLift (s : SS) (t p : Int) : SS := if inC s t p = 0 then ⟨if p.toNat = prioQ s.q t.toNat then s.q else moveQ s.q t.toNat p.toNat true, s.rob, s.lf⟩ else s
/-- What an operation leaves. -/
def OpE (w : World) (x g : Nat) (Q st c : Int) (s : SS) (e : Ending) (w' : World) : Prop := e = .returned (.int .i64 c) ∧ (∃ st', st ≤ st' ∧ st' ≤ st + 8 ∧ TS w' x g Q s st') ∧ Only [x, g] w w'
theorem TS.cells {w : World} {x g : Nat} {Q : Int} {s : SS} {st : Int} (h : TS w x g Q s st) : w.cell? ⟨x, 0, none⟩ = some (.pointer (some ⟨g, 0, none⟩)) ∧ ∀ t, t < 16 → w.cell? ⟨x, 2 + t * 4, none⟩ = some (.bool (decide (prioQ s.q t ≠ 0))) := by
  obtain ⟨⟨cs, hb, hC⟩, hR⟩ := h
  exact ⟨(hb.cell 0).trans hC.r, fun t ht => (hb.cell _).trans (hC.inn t ht)⟩
theorem TS.lt {w : World} {x g : Nat} {Q : Int} {s : SS} {st : Int} (h : TS w x g Q s st) : x < w.heap.size ∧ g < w.heap.size := by
  obtain ⟨⟨cs, hb, hC⟩, s', prio, bits, ⟨cs', hb', _⟩, _⟩ := h
  exact ⟨hb.lt, hb'.lt⟩
theorem CL.op {w : World} {x g : Nat} {Q st : Int} {q : Nat → List Nat} {rob : Nat → Bool} {lf : Nat → Int} {e : Ending} {w' : World} (h : CL w x g Q st q rob lf e w') : e = .returned (.tuple #[]) ∧ ((∃ st', st ≤ st' ∧ st' ≤ st + 8 ∧ TS w' x g Q ⟨q, rob, lf⟩ st') ∧ Only [x, g] w w') := ⟨h.1, h.2.1, h.2.2⟩

set_option maxHeartbeats 1000000 in
theorem leave_spec (x g : Nat) (Q : Int) (s : SS) (st : Int) (hst : 0 ≤ st ∧ st < 800000) (t : Int) (w : World) (h : TS w x g Q s st) :
    Calls Try.prog 27 #[.pointer (some ⟨x, 0, none⟩), .int .i64 t] w (OpE w x g Q st (inC s t 1) (sLeave s t)) := by
  have hlt := h.lt
  have oW : Only [] w ((w.alloc (.cells #[.pointer (some ⟨x, 0, none⟩)] 23)).alloc (.cells #[.int .i64 t] 3)) := ((Only.refl [] w).alloc _).alloc _
  have hT : TS ((w.alloc (.cells #[.pointer (some ⟨x, 0, none⟩)] 23)).alloc (.cells #[.int .i64 t] 3)) x g Q s st := TT.only h oW (by simp) (by simp)
  have hc := hT.cells

  have e0 := (Blk.new w 23 #[.pointer (some ⟨x, 0, none⟩)]).alloc (.cells #[.int .i64 t] 3)
  try simp only [World.size_alloc] at e0
  have c0 : (((w.alloc (.cells #[.pointer (some ⟨x, 0, none⟩)] 23)).alloc (.cells #[.int .i64 t] 3))).cell? ⟨w.heap.size, 0, none⟩ = some (.pointer (some ⟨x, 0, none⟩)) := by simpa using e0.cell 0

  have e1 := Blk.new (w.alloc (.cells #[.pointer (some ⟨x, 0, none⟩)] 23)) 3 #[.int .i64 t]
  try simp only [World.size_alloc] at e1
  have c1 : (((w.alloc (.cells #[.pointer (some ⟨x, 0, none⟩)] 23)).alloc (.cells #[.int .i64 t] 3))).cell? ⟨w.heap.size + 1, 0, none⟩ = some (.int .i64 t) := by simpa using e1.cell 0

  obtain ⟨W1, hW1⟩ : ∃ W1, ((w.alloc (.cells #[.pointer (some ⟨x, 0, none⟩)] 23)).alloc (.cells #[.int .i64 t] 3)) = W1 := ⟨_, rfl⟩
  rw [hW1] at oW hT hc c0 c1
  have key : Calls Try.prog 51 #[.pointer (some ⟨x, 0, none⟩), .int .i64 t, .int .i64 1, .func (.func 52) #[] #[.pointer (some ⟨w.heap.size, 0, none⟩), .pointer (some ⟨w.heap.size + 1, 0, none⟩)]] W1 fun e w' => e = .returned (.int .i64 (inC s t 1)) ∧ ((∃ st', st ≤ st' ∧ st' ≤ st + 8 ∧ TS w' x g Q (sLeave s t) st') ∧ Only [x, g] W1 w') := by
    have keep : ∀ c : Int, inC s t 1 = c → c ≠ 0 → sLeave s t = s := fun c hc hz => by unfold sLeave; rw [if_neg (by rw [hc]; exact hz)]
    by_cases hm : mayT t 1
    · have hm' := hm
      obtain ⟨t1, t2, p1', p2'⟩ := hm'
      obtain ⟨T, rfl⟩ : ∃ m : Nat, t = m := ⟨t.toNat, by omega⟩
      have hP1 : (1 : Int) = ((1 : Nat) : Int) := rfl
      have t16 : T < 16 := by omega
      have p1 : 1 ≤ 1 := by omega
      have p2 : 1 ≤ 31 := by omega
      have k1 := hc.2 T t16
      by_cases hin : prioQ s.q T = 0
      · have hcc : inC s T 1 = 6 := by unfold inC; rw [if_neg (by simpa using hm), if_pos (by rw [Int.toNat_natCast]; exact hin)]
        rw [decide_eq_false (by simpa using hin)] at k1
        refine (in_none x g T 1 _ t16 p1 p2 W1 hc.1 k1).mono ?_
        rintro e w' ⟨rfl, hw⟩
        obtain rfl := hw.symm
        refine ⟨by rw [hcc], ⟨st, by omega, by omega, ?_⟩, Only.refl _ _⟩
        rw [keep 6 hcc (by decide)]
        exact hT
      · have hcc : inC s T 1 = 0 := by unfold inC; rw [if_neg (by simpa using hm), if_neg (by rw [Int.toNat_natCast]; exact hin)]
        rw [decide_eq_true hin] at k1
        have hnew : sLeave s (T : Int) = ⟨remQ s.q T, updb s.rob T false, upd s.lf T 0⟩ := by unfold sLeave; rw [if_pos hcc, Int.toNat_natCast]
        rw [hcc, hnew]
        refine in_52 (w.heap.size) (w.heap.size + 1) x g T 1 t16 p1 p2 W1 hc.1 k1 _ ?_
        exact (leave_cl (w.heap.size) (w.heap.size + 1) x g Q s.q s.rob s.lf st T W1 hst t16 hin hT c0 c1).mono fun e w' h => CL.op h
    · have hcc : inC s t 1 = 2 := by unfold inC; rw [if_pos hm]
      refine (in_arg x g t 1 _ W1 hc.1 hm).mono ?_
      rintro e w' ⟨rfl, hw⟩
      obtain rfl := hw.symm
      refine ⟨by rw [hcc], ⟨st, by omega, by omega, ?_⟩, Only.refl _ _⟩
      rw [keep 2 hcc (by decide)]
      exact hT
  have K := hide key
  have OW := hide oW
  clear key oW hT hc c0 e0 c1 e1
  rw [← hW1] at K OW
  clear hW1
  go_enter Try.func27, Try.ntmps27
  go_wp2_with (go_at_call 51; refine K.out.mono ?_; rintro e w2 ⟨rfl, hP, o2⟩; have HP := hide hP; clear hP)
  go_ret
  exact ⟨rfl, HP.out, (wide_only (S := [x, g]) OW.out).trans' o2⟩

set_option maxHeartbeats 1000000 in
theorem yield_spec (x g : Nat) (Q : Int) (s : SS) (st : Int) (hst : 0 ≤ st ∧ st < 800000) (t : Int) (w : World) (h : TS w x g Q s st) :
    Calls Try.prog 28 #[.pointer (some ⟨x, 0, none⟩), .int .i64 t] w (OpE w x g Q st (inC s t 1) (sYield s t)) := by
  have hlt := h.lt
  have oW : Only [] w ((w.alloc (.cells #[.pointer (some ⟨x, 0, none⟩)] 23)).alloc (.cells #[.int .i64 t] 3)) := ((Only.refl [] w).alloc _).alloc _
  have hT : TS ((w.alloc (.cells #[.pointer (some ⟨x, 0, none⟩)] 23)).alloc (.cells #[.int .i64 t] 3)) x g Q s st := TT.only h oW (by simp) (by simp)
  have hc := hT.cells

  have e0 := (Blk.new w 23 #[.pointer (some ⟨x, 0, none⟩)]).alloc (.cells #[.int .i64 t] 3)
  try simp only [World.size_alloc] at e0
  have c0 : (((w.alloc (.cells #[.pointer (some ⟨x, 0, none⟩)] 23)).alloc (.cells #[.int .i64 t] 3))).cell? ⟨w.heap.size, 0, none⟩ = some (.pointer (some ⟨x, 0, none⟩)) := by simpa using e0.cell 0

  have e1 := Blk.new (w.alloc (.cells #[.pointer (some ⟨x, 0, none⟩)] 23)) 3 #[.int .i64 t]
  try simp only [World.size_alloc] at e1
  have c1 : (((w.alloc (.cells #[.pointer (some ⟨x, 0, none⟩)] 23)).alloc (.cells #[.int .i64 t] 3))).cell? ⟨w.heap.size + 1, 0, none⟩ = some (.int .i64 t) := by simpa using e1.cell 0

  obtain ⟨W1, hW1⟩ : ∃ W1, ((w.alloc (.cells #[.pointer (some ⟨x, 0, none⟩)] 23)).alloc (.cells #[.int .i64 t] 3)) = W1 := ⟨_, rfl⟩
  rw [hW1] at oW hT hc c0 c1
  have key : Calls Try.prog 51 #[.pointer (some ⟨x, 0, none⟩), .int .i64 t, .int .i64 1, .func (.func 54) #[] #[.pointer (some ⟨w.heap.size, 0, none⟩), .pointer (some ⟨w.heap.size + 1, 0, none⟩)]] W1 fun e w' => e = .returned (.int .i64 (inC s t 1)) ∧ ((∃ st', st ≤ st' ∧ st' ≤ st + 8 ∧ TS w' x g Q (sYield s t) st') ∧ Only [x, g] W1 w') := by
    have keep : ∀ c : Int, inC s t 1 = c → c ≠ 0 → sYield s t = s := fun c hc hz => by unfold sYield; rw [if_neg (by rw [hc]; exact hz)]
    by_cases hm : mayT t 1
    · have hm' := hm
      obtain ⟨t1, t2, p1', p2'⟩ := hm'
      obtain ⟨T, rfl⟩ : ∃ m : Nat, t = m := ⟨t.toNat, by omega⟩
      have hP1 : (1 : Int) = ((1 : Nat) : Int) := rfl
      have t16 : T < 16 := by omega
      have p1 : 1 ≤ 1 := by omega
      have p2 : 1 ≤ 31 := by omega
      have k1 := hc.2 T t16
      by_cases hin : prioQ s.q T = 0
      · have hcc : inC s T 1 = 6 := by unfold inC; rw [if_neg (by simpa using hm), if_pos (by rw [Int.toNat_natCast]; exact hin)]
        rw [decide_eq_false (by simpa using hin)] at k1
        refine (in_none x g T 1 _ t16 p1 p2 W1 hc.1 k1).mono ?_
        rintro e w' ⟨rfl, hw⟩
        obtain rfl := hw.symm
        refine ⟨by rw [hcc], ⟨st, by omega, by omega, ?_⟩, Only.refl _ _⟩
        rw [keep 6 hcc (by decide)]
        exact hT
      · have hcc : inC s T 1 = 0 := by unfold inC; rw [if_neg (by simpa using hm), if_neg (by rw [Int.toNat_natCast]; exact hin)]
        rw [decide_eq_true hin] at k1
        have hnew : sYield s (T : Int) = ⟨moveQ s.q T (prioQ s.q T) false, s.rob, s.lf⟩ := by unfold sYield; rw [if_pos hcc, Int.toNat_natCast]
        rw [hcc, hnew]
        refine in_54 (w.heap.size) (w.heap.size + 1) x g T 1 t16 p1 p2 W1 hc.1 k1 _ ?_
        exact (yield_cl (w.heap.size) (w.heap.size + 1) x g Q s.q s.rob s.lf st T W1 hst t16 hin hT c0 c1).mono fun e w' h => CL.op h
    · have hcc : inC s t 1 = 2 := by unfold inC; rw [if_pos hm]
      refine (in_arg x g t 1 _ W1 hc.1 hm).mono ?_
      rintro e w' ⟨rfl, hw⟩
      obtain rfl := hw.symm
      refine ⟨by rw [hcc], ⟨st, by omega, by omega, ?_⟩, Only.refl _ _⟩
      rw [keep 2 hcc (by decide)]
      exact hT
  have K := hide key
  have OW := hide oW
  clear key oW hT hc c0 e0 c1 e1
  rw [← hW1] at K OW
  clear hW1
  go_enter Try.func28, Try.ntmps28
  go_wp2_with (go_at_call 51; refine K.out.mono ?_; rintro e w2 ⟨rfl, hP, o2⟩; have HP := hide hP; clear hP)
  go_ret
  exact ⟨rfl, HP.out, (wide_only (S := [x, g]) OW.out).trans' o2⟩

set_option maxHeartbeats 1000000 in
theorem put_spec (x g : Nat) (Q : Int) (s : SS) (st : Int) (hst : 0 ≤ st ∧ st < 800000) (t : Int) (p : Int) (rb : Bool) (w : World) (h : TS w x g Q s st) :
    Calls Try.prog 29 #[.pointer (some ⟨x, 0, none⟩), .int .i64 t, .int .i64 p, .bool rb] w (OpE w x g Q st (inC s t p) (sPut Q s t p rb)) := by
  have hlt := h.lt
  have oW : Only [] w ((((w.alloc (.cells #[.pointer (some ⟨x, 0, none⟩)] 23)).alloc (.cells #[.int .i64 t] 3)).alloc (.cells #[.int .i64 p] 3)).alloc (.cells #[.bool rb] 4)) := ((((Only.refl [] w).alloc _).alloc _).alloc _).alloc _
  have hT : TS ((((w.alloc (.cells #[.pointer (some ⟨x, 0, none⟩)] 23)).alloc (.cells #[.int .i64 t] 3)).alloc (.cells #[.int .i64 p] 3)).alloc (.cells #[.bool rb] 4)) x g Q s st := TT.only h oW (by simp) (by simp)
  have hc := hT.cells

  have e0 := (((Blk.new w 23 #[.pointer (some ⟨x, 0, none⟩)]).alloc (.cells #[.int .i64 t] 3)).alloc (.cells #[.int .i64 p] 3)).alloc (.cells #[.bool rb] 4)
  try simp only [World.size_alloc] at e0
  have c0 : (((((w.alloc (.cells #[.pointer (some ⟨x, 0, none⟩)] 23)).alloc (.cells #[.int .i64 t] 3)).alloc (.cells #[.int .i64 p] 3)).alloc (.cells #[.bool rb] 4))).cell? ⟨w.heap.size, 0, none⟩ = some (.pointer (some ⟨x, 0, none⟩)) := by simpa using e0.cell 0

  have e1 := ((Blk.new (w.alloc (.cells #[.pointer (some ⟨x, 0, none⟩)] 23)) 3 #[.int .i64 t]).alloc (.cells #[.int .i64 p] 3)).alloc (.cells #[.bool rb] 4)
  try simp only [World.size_alloc] at e1
  have c1 : (((((w.alloc (.cells #[.pointer (some ⟨x, 0, none⟩)] 23)).alloc (.cells #[.int .i64 t] 3)).alloc (.cells #[.int .i64 p] 3)).alloc (.cells #[.bool rb] 4))).cell? ⟨w.heap.size + 1, 0, none⟩ = some (.int .i64 t) := by simpa using e1.cell 0

  have e2 := (Blk.new ((w.alloc (.cells #[.pointer (some ⟨x, 0, none⟩)] 23)).alloc (.cells #[.int .i64 t] 3)) 3 #[.int .i64 p]).alloc (.cells #[.bool rb] 4)
  try simp only [World.size_alloc] at e2
  have c2 : (((((w.alloc (.cells #[.pointer (some ⟨x, 0, none⟩)] 23)).alloc (.cells #[.int .i64 t] 3)).alloc (.cells #[.int .i64 p] 3)).alloc (.cells #[.bool rb] 4))).cell? ⟨w.heap.size + 1 + 1, 0, none⟩ = some (.int .i64 p) := by simpa using e2.cell 0

  have e3 := Blk.new (((w.alloc (.cells #[.pointer (some ⟨x, 0, none⟩)] 23)).alloc (.cells #[.int .i64 t] 3)).alloc (.cells #[.int .i64 p] 3)) 4 #[.bool rb]
  try simp only [World.size_alloc] at e3
  have c3 : (((((w.alloc (.cells #[.pointer (some ⟨x, 0, none⟩)] 23)).alloc (.cells #[.int .i64 t] 3)).alloc (.cells #[.int .i64 p] 3)).alloc (.cells #[.bool rb] 4))).cell? ⟨w.heap.size + 1 + 1 + 1, 0, none⟩ = some (.bool rb) := by simpa using e3.cell 0

  obtain ⟨W1, hW1⟩ : ∃ W1, ((((w.alloc (.cells #[.pointer (some ⟨x, 0, none⟩)] 23)).alloc (.cells #[.int .i64 t] 3)).alloc (.cells #[.int .i64 p] 3)).alloc (.cells #[.bool rb] 4)) = W1 := ⟨_, rfl⟩
  rw [hW1] at oW hT hc c0 c1 c2 c3
  have key : Calls Try.prog 51 #[.pointer (some ⟨x, 0, none⟩), .int .i64 t, .int .i64 p, .func (.func 55) #[] #[.pointer (some ⟨w.heap.size, 0, none⟩), .pointer (some ⟨w.heap.size + 1, 0, none⟩), .pointer (some ⟨w.heap.size + 1 + 1, 0, none⟩), .pointer (some ⟨w.heap.size + 1 + 1 + 1, 0, none⟩)]] W1 fun e w' => e = .returned (.int .i64 (inC s t p)) ∧ ((∃ st', st ≤ st' ∧ st' ≤ st + 8 ∧ TS w' x g Q (sPut Q s t p rb) st') ∧ Only [x, g] W1 w') := by
    have keep : ∀ c : Int, inC s t p = c → c ≠ 0 → sPut Q s t p rb = s := fun c hc hz => by unfold sPut; rw [if_neg (by rw [hc]; exact hz)]
    by_cases hm : mayT t p
    · have hm' := hm
      obtain ⟨t1, t2, p1', p2'⟩ := hm'
      obtain ⟨T, rfl⟩ : ∃ m : Nat, t = m := ⟨t.toNat, by omega⟩
      obtain ⟨Pn, rfl⟩ : ∃ m : Nat, p = m := ⟨p.toNat, by omega⟩
      have t16 : T < 16 := by omega
      have p1 : 1 ≤ Pn := by omega
      have p2 : Pn ≤ 31 := by omega
      have k1 := hc.2 T t16
      by_cases hin : prioQ s.q T = 0
      · have hcc : inC s T Pn = 6 := by unfold inC; rw [if_neg (by simpa using hm), if_pos (by rw [Int.toNat_natCast]; exact hin)]
        rw [decide_eq_false (by simpa using hin)] at k1
        refine (in_none x g T Pn _ t16 p1 p2 W1 hc.1 k1).mono ?_
        rintro e w' ⟨rfl, hw⟩
        obtain rfl := hw.symm
        refine ⟨by rw [hcc], ⟨st, by omega, by omega, ?_⟩, Only.refl _ _⟩
        rw [keep 6 hcc (by decide)]
        exact hT
      · have hcc : inC s T Pn = 0 := by unfold inC; rw [if_neg (by simpa using hm), if_neg (by rw [Int.toNat_natCast]; exact hin)]
        rw [decide_eq_true hin] at k1
        have hnew : sPut Q s (T : Int) (Pn : Int) rb = ⟨moveQ s.q T Pn false, updb s.rob T rb, upd s.lf T Q⟩ := by unfold sPut; rw [if_pos hcc, Int.toNat_natCast, Int.toNat_natCast]
        rw [hcc, hnew]
        refine in_55 (w.heap.size) (w.heap.size + 1) (w.heap.size + 1 + 1) (w.heap.size + 1 + 1 + 1) x g T Pn t16 p1 p2 W1 hc.1 k1 _ ?_
        exact (put_cl (w.heap.size) (w.heap.size + 1) (w.heap.size + 1 + 1) (w.heap.size + 1 + 1 + 1) x g Q s.q s.rob s.lf st T W1 Pn rb hst t16 p1 p2 hin hT c0 c1 c2 c3 (by simp; omega) (by simp; omega)).mono fun e w' h => CL.op h
    · have hcc : inC s t p = 2 := by unfold inC; rw [if_pos hm]
      refine (in_arg x g t p _ W1 hc.1 hm).mono ?_
      rintro e w' ⟨rfl, hw⟩
      obtain rfl := hw.symm
      refine ⟨by rw [hcc], ⟨st, by omega, by omega, ?_⟩, Only.refl _ _⟩
      rw [keep 2 hcc (by decide)]
      exact hT
  have K := hide key
  have OW := hide oW
  clear key oW hT hc c0 e0 c1 e1 c2 e2 c3 e3
  rw [← hW1] at K OW
  clear hW1
  go_enter Try.func29, Try.ntmps29
  go_wp2_with (go_at_call 51; refine K.out.mono ?_; rintro e w2 ⟨rfl, hP, o2⟩; have HP := hide hP; clear hP)
  go_ret
  exact ⟨rfl, HP.out, (wide_only (S := [x, g]) OW.out).trans' o2⟩

set_option maxHeartbeats 1000000 in
theorem lift_spec (x g : Nat) (Q : Int) (s : SS) (st : Int) (hst : 0 ≤ st ∧ st < 800000) (t : Int) (p : Int) (w : World) (h : TS w x g Q s st) :
    Calls Try.prog 31 #[.pointer (some ⟨x, 0, none⟩), .int .i64 t, .int .i64 p] w (OpE w x g Q st (inC s t p) (sLift s t p)) := by
  have hlt := h.lt
  have oW : Only [] w (((w.alloc (.cells #[.pointer (some ⟨x, 0, none⟩)] 23)).alloc (.cells #[.int .i64 t] 3)).alloc (.cells #[.int .i64 p] 3)) := (((Only.refl [] w).alloc _).alloc _).alloc _
  have hT : TS (((w.alloc (.cells #[.pointer (some ⟨x, 0, none⟩)] 23)).alloc (.cells #[.int .i64 t] 3)).alloc (.cells #[.int .i64 p] 3)) x g Q s st := TT.only h oW (by simp) (by simp)
  have hc := hT.cells

  have e0 := ((Blk.new w 23 #[.pointer (some ⟨x, 0, none⟩)]).alloc (.cells #[.int .i64 t] 3)).alloc (.cells #[.int .i64 p] 3)
  try simp only [World.size_alloc] at e0
  have c0 : ((((w.alloc (.cells #[.pointer (some ⟨x, 0, none⟩)] 23)).alloc (.cells #[.int .i64 t] 3)).alloc (.cells #[.int .i64 p] 3))).cell? ⟨w.heap.size, 0, none⟩ = some (.pointer (some ⟨x, 0, none⟩)) := by simpa using e0.cell 0

  have e1 := (Blk.new (w.alloc (.cells #[.pointer (some ⟨x, 0, none⟩)] 23)) 3 #[.int .i64 t]).alloc (.cells #[.int .i64 p] 3)
  try simp only [World.size_alloc] at e1
  have c1 : ((((w.alloc (.cells #[.pointer (some ⟨x, 0, none⟩)] 23)).alloc (.cells #[.int .i64 t] 3)).alloc (.cells #[.int .i64 p] 3))).cell? ⟨w.heap.size + 1, 0, none⟩ = some (.int .i64 t) := by simpa using e1.cell 0

  have e2 := Blk.new ((w.alloc (.cells #[.pointer (some ⟨x, 0, none⟩)] 23)).alloc (.cells #[.int .i64 t] 3)) 3 #[.int .i64 p]
  try simp only [World.size_alloc] at e2
  have c2 : ((((w.alloc (.cells #[.pointer (some ⟨x, 0, none⟩)] 23)).alloc (.cells #[.int .i64 t] 3)).alloc (.cells #[.int .i64 p] 3))).cell? ⟨w.heap.size + 1 + 1, 0, none⟩ = some (.int .i64 p) := by simpa using e2.cell 0

  obtain ⟨W1, hW1⟩ : ∃ W1, (((w.alloc (.cells #[.pointer (some ⟨x, 0, none⟩)] 23)).alloc (.cells #[.int .i64 t] 3)).alloc (.cells #[.int .i64 p] 3)) = W1 := ⟨_, rfl⟩
  rw [hW1] at oW hT hc c0 c1 c2
  have key : Calls Try.prog 51 #[.pointer (some ⟨x, 0, none⟩), .int .i64 t, .int .i64 p, .func (.func 57) #[] #[.pointer (some ⟨w.heap.size + 1 + 1, 0, none⟩), .pointer (some ⟨w.heap.size, 0, none⟩), .pointer (some ⟨w.heap.size + 1, 0, none⟩)]] W1 fun e w' => e = .returned (.int .i64 (inC s t p)) ∧ ((∃ st', st ≤ st' ∧ st' ≤ st + 8 ∧ TS w' x g Q (sLift s t p) st') ∧ Only [x, g] W1 w') := by
    have keep : ∀ c : Int, inC s t p = c → c ≠ 0 → sLift s t p = s := fun c hc hz => by unfold sLift; rw [if_neg (by rw [hc]; exact hz)]
    by_cases hm : mayT t p
    · have hm' := hm
      obtain ⟨t1, t2, p1', p2'⟩ := hm'
      obtain ⟨T, rfl⟩ : ∃ m : Nat, t = m := ⟨t.toNat, by omega⟩
      obtain ⟨Pn, rfl⟩ : ∃ m : Nat, p = m := ⟨p.toNat, by omega⟩
      have t16 : T < 16 := by omega
      have p1 : 1 ≤ Pn := by omega
      have p2 : Pn ≤ 31 := by omega
      have k1 := hc.2 T t16
      by_cases hin : prioQ s.q T = 0
      · have hcc : inC s T Pn = 6 := by unfold inC; rw [if_neg (by simpa using hm), if_pos (by rw [Int.toNat_natCast]; exact hin)]
        rw [decide_eq_false (by simpa using hin)] at k1
        refine (in_none x g T Pn _ t16 p1 p2 W1 hc.1 k1).mono ?_
        rintro e w' ⟨rfl, hw⟩
        obtain rfl := hw.symm
        refine ⟨by rw [hcc], ⟨st, by omega, by omega, ?_⟩, Only.refl _ _⟩
        rw [keep 6 hcc (by decide)]
        exact hT
      · have hcc : inC s T Pn = 0 := by unfold inC; rw [if_neg (by simpa using hm), if_neg (by rw [Int.toNat_natCast]; exact hin)]
        rw [decide_eq_true hin] at k1
        have hnew : sLift s (T : Int) (Pn : Int) = ⟨if Pn = prioQ s.q T then s.q else moveQ s.q T Pn true, s.rob, s.lf⟩ := by unfold sLift; rw [if_pos hcc, Int.toNat_natCast, Int.toNat_natCast]
        rw [hcc, hnew]
        refine in_57 (w.heap.size + 1 + 1) (w.heap.size) (w.heap.size + 1) x g T Pn t16 p1 p2 W1 hc.1 k1 _ ?_
        exact (lift_cl (w.heap.size + 1 + 1) (w.heap.size) (w.heap.size + 1) x g Q s.q s.rob s.lf st T W1 Pn hst t16 p1 p2 hin hT c2 c0 c1).mono fun e w' h => CL.op h
    · have hcc : inC s t p = 2 := by unfold inC; rw [if_pos hm]
      refine (in_arg x g t p _ W1 hc.1 hm).mono ?_
      rintro e w' ⟨rfl, hw⟩
      obtain rfl := hw.symm
      refine ⟨by rw [hcc], ⟨st, by omega, by omega, ?_⟩, Only.refl _ _⟩
      rw [keep 2 hcc (by decide)]
      exact hT
  have K := hide key
  have OW := hide oW
  clear key oW hT hc c0 e0 c1 e1 c2 e2
  rw [← hW1] at K OW
  clear hW1
  go_enter Try.func31, Try.ntmps31
  go_wp2_with (go_at_call 51; refine K.out.mono ?_; rintro e w2 ⟨rfl, hP, o2⟩; have HP := hide hP; clear hP)
  go_ret
  exact ⟨rfl, HP.out, (wide_only (S := [x, g]) OW.out).trans' o2⟩

set_option maxHeartbeats 1000000 in
theorem move_spec (x g : Nat) (Q : Int) (s : SS) (st : Int) (hst : 0 ≤ st ∧ st < 800000) (t : Int) (p : Int) (w : World) (h : TS w x g Q s st) :
    Calls Try.prog 30 #[.pointer (some ⟨x, 0, none⟩), .int .i64 t, .int .i64 p] w (OpE w x g Q st (inC s t p) (sMove s t p)) := by
  have hlt := h.lt
  have oW : Only [] w (((w.alloc (.cells #[.pointer (some ⟨x, 0, none⟩)] 23)).alloc (.cells #[.int .i64 t] 3)).alloc (.cells #[.int .i64 p] 3)) := (((Only.refl [] w).alloc _).alloc _).alloc _
  have hT : TS (((w.alloc (.cells #[.pointer (some ⟨x, 0, none⟩)] 23)).alloc (.cells #[.int .i64 t] 3)).alloc (.cells #[.int .i64 p] 3)) x g Q s st := TT.only h oW (by simp) (by simp)
  have hc := hT.cells

  have e0 := ((Blk.new w 23 #[.pointer (some ⟨x, 0, none⟩)]).alloc (.cells #[.int .i64 t] 3)).alloc (.cells #[.int .i64 p] 3)
  try simp only [World.size_alloc] at e0
  have c0 : ((((w.alloc (.cells #[.pointer (some ⟨x, 0, none⟩)] 23)).alloc (.cells #[.int .i64 t] 3)).alloc (.cells #[.int .i64 p] 3))).cell? ⟨w.heap.size, 0, none⟩ = some (.pointer (some ⟨x, 0, none⟩)) := by simpa using e0.cell 0

  have e1 := (Blk.new (w.alloc (.cells #[.pointer (some ⟨x, 0, none⟩)] 23)) 3 #[.int .i64 t]).alloc (.cells #[.int .i64 p] 3)
  try simp only [World.size_alloc] at e1
  have c1 : ((((w.alloc (.cells #[.pointer (some ⟨x, 0, none⟩)] 23)).alloc (.cells #[.int .i64 t] 3)).alloc (.cells #[.int .i64 p] 3))).cell? ⟨w.heap.size + 1, 0, none⟩ = some (.int .i64 t) := by simpa using e1.cell 0

  have e2 := Blk.new ((w.alloc (.cells #[.pointer (some ⟨x, 0, none⟩)] 23)).alloc (.cells #[.int .i64 t] 3)) 3 #[.int .i64 p]
  try simp only [World.size_alloc] at e2
  have c2 : ((((w.alloc (.cells #[.pointer (some ⟨x, 0, none⟩)] 23)).alloc (.cells #[.int .i64 t] 3)).alloc (.cells #[.int .i64 p] 3))).cell? ⟨w.heap.size + 1 + 1, 0, none⟩ = some (.int .i64 p) := by simpa using e2.cell 0

  obtain ⟨W1, hW1⟩ : ∃ W1, (((w.alloc (.cells #[.pointer (some ⟨x, 0, none⟩)] 23)).alloc (.cells #[.int .i64 t] 3)).alloc (.cells #[.int .i64 p] 3)) = W1 := ⟨_, rfl⟩
  rw [hW1] at oW hT hc c0 c1 c2
  have key : Calls Try.prog 51 #[.pointer (some ⟨x, 0, none⟩), .int .i64 t, .int .i64 p, .func (.func 56) #[] #[.pointer (some ⟨w.heap.size + 1 + 1, 0, none⟩), .pointer (some ⟨w.heap.size, 0, none⟩), .pointer (some ⟨w.heap.size + 1, 0, none⟩)]] W1 fun e w' => e = .returned (.int .i64 (inC s t p)) ∧ ((∃ st', st ≤ st' ∧ st' ≤ st + 8 ∧ TS w' x g Q (sMove s t p) st') ∧ Only [x, g] W1 w') := by
    have keep : ∀ c : Int, inC s t p = c → c ≠ 0 → sMove s t p = s := fun c hc hz => by unfold sMove; rw [if_neg (by rw [hc]; exact hz)]
    by_cases hm : mayT t p
    · have hm' := hm
      obtain ⟨t1, t2, p1', p2'⟩ := hm'
      obtain ⟨T, rfl⟩ : ∃ m : Nat, t = m := ⟨t.toNat, by omega⟩
      obtain ⟨Pn, rfl⟩ : ∃ m : Nat, p = m := ⟨p.toNat, by omega⟩
      have t16 : T < 16 := by omega
      have p1 : 1 ≤ Pn := by omega
      have p2 : Pn ≤ 31 := by omega
      have k1 := hc.2 T t16
      by_cases hin : prioQ s.q T = 0
      · have hcc : inC s T Pn = 6 := by unfold inC; rw [if_neg (by simpa using hm), if_pos (by rw [Int.toNat_natCast]; exact hin)]
        rw [decide_eq_false (by simpa using hin)] at k1
        refine (in_none x g T Pn _ t16 p1 p2 W1 hc.1 k1).mono ?_
        rintro e w' ⟨rfl, hw⟩
        obtain rfl := hw.symm
        refine ⟨by rw [hcc], ⟨st, by omega, by omega, ?_⟩, Only.refl _ _⟩
        rw [keep 6 hcc (by decide)]
        exact hT
      · have hcc : inC s T Pn = 0 := by unfold inC; rw [if_neg (by simpa using hm), if_neg (by rw [Int.toNat_natCast]; exact hin)]
        rw [decide_eq_true hin] at k1
        have hnew : sMove s (T : Int) (Pn : Int) = ⟨if Pn = prioQ s.q T then s.q else moveQ s.q T Pn (decide (Pn < prioQ s.q T)), s.rob, s.lf⟩ := by unfold sMove; rw [if_pos hcc, Int.toNat_natCast, Int.toNat_natCast]
        rw [hcc, hnew]
        refine in_56 (w.heap.size + 1 + 1) (w.heap.size) (w.heap.size + 1) x g T Pn t16 p1 p2 W1 hc.1 k1 _ ?_
        exact (move_cl (w.heap.size + 1 + 1) (w.heap.size) (w.heap.size + 1) x g Q s.q s.rob s.lf st T W1 Pn hst t16 p1 p2 hin hT c2 c0 c1 (by simp; omega) (by simp; omega) (by simp; omega)).mono fun e w' h => CL.op h
    · have hcc : inC s t p = 2 := by unfold inC; rw [if_pos hm]
      refine (in_arg x g t p _ W1 hc.1 hm).mono ?_
      rintro e w' ⟨rfl, hw⟩
      obtain rfl := hw.symm
      refine ⟨by rw [hcc], ⟨st, by omega, by omega, ?_⟩, Only.refl _ _⟩
      rw [keep 2 hcc (by decide)]
      exact hT
  have K := hide key
  have OW := hide oW
  clear key oW hT hc c0 e0 c1 e1 c2 e2
  rw [← hW1] at K OW
  clear hW1
  go_enter Try.func30, Try.ntmps30
  go_wp2_with (go_at_call 51; refine K.out.mono ?_; rintro e w2 ⟨rfl, hP, o2⟩; have HP := hide hP; clear hP)
  go_ret
  exact ⟨rfl, HP.out, (wide_only (S := [x, g]) OW.out).trans' o2⟩

end Go.Proofs.Ytnndengdlokmbaa
