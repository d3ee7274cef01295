/- Turns: the walk of Tick. Condition: the turns lie. -/
import Derived.Test.YtnndengdlokmbaaTu8
namespace Go.Proofs.Ytnndengdlokmbaa
open Go.RowKit
set_option linter.unusedVariables false
set_option linter.all false
set_option maxRecDepth 20000

theorem below_head (q : Nat → List Nat) : ∀ (P p t : Nat) (rest : List (Nat × Nat)), below q P = (p, t) :: rest → p < P ∧ ∃ r, q p = t :: r ∧ below (setq q p r) P = rest
  | 0, p, t, rest, h => by simp [below] at h
  | P + 1, p, t, rest, h => by
    rw [below] at h
    cases hq : q P with
    | nil =>
      rw [hq, List.map_nil, List.nil_append] at h
      obtain ⟨h1, r, h2, h3⟩ := below_head q P p t rest h
      refine ⟨by omega, r, h2, ?_⟩
      rw [below, setq_other _ _ (show P ≠ p by omega), hq, List.map_nil, List.nil_append, h3]
    | cons t' r' =>
      rw [hq, List.map_cons, List.cons_append] at h
      injection h with h1 h2
      injection h1 with h3 h4
      subst h3 h4
      refine ⟨by omega, r', hq, ?_⟩
      rw [below, setq_same, ← h2]
      congr 1
      exact below_congr P (fun j hj => setq_other _ _ (by omega))
theorem below_down (q : Nat → List Nat) : ∀ P, (below q P).Pairwise (fun x y => y.1 ≤ x.1)
  | 0 => by simp [below]
  | P + 1 => by
    rw [below, List.pairwise_append]
    refine ⟨?_, below_down q P, fun x hx y hy => ?_⟩
    · rw [List.pairwise_map]
      exact List.pairwise_of_forall (fun _ _ => Nat.le_refl _)
    · obtain ⟨t, _, rfl⟩ := List.mem_map.1 hx
      have := ((mem_below q P y).1 hy).1
      show y.1 ≤ P
      omega
/-- The first one of all: its priority, its place, and what is left without it. -/
theorem RL.first {w : World} {g : Nat} {q : Nat → List Nat} {st : Int} (h : RL w g q st) {p t : Nat} {rest : List (Nat × Nat)} (ha : allQ q = (p, t) :: rest) :
    prioQ q t = p ∧ 1 ≤ p ∧ p ≤ 31 ∧ t < 16 ∧ allQ (remQ q t) = rest ∧ remC q t = 0 ∧ (∀ x ∈ rest, x.1 ≤ p) ∧ ∀ x ∈ rest, x.2 ≠ t := by
  obtain ⟨s, prio, bits, _, hR⟩ := h
  obtain ⟨h1, r, h2, h3⟩ := below_head q 32 p t rest ha
  have hm : t ∈ q p := by rw [h2]; simp
  obtain ⟨p1, p2⟩ := hR.out p t hm
  have ht := hR.lt p t hm
  have hpr := hR.prioQ ht
  rw [hR.pr1 p t hm] at hpr
  have hpq : prioQ q t = p := by omega
  have hc : remC q t = 0 := by
    unfold remC
    rw [if_neg (by simp; omega), if_neg (by rw [Int.toNat_natCast, hpq]; omega)]
  have hd := below_down q 32
  have hn := hR.nodup_below 32
  have ha' : below q 32 = (p, t) :: rest := ha
  rw [ha'] at hd hn
  rw [List.map_cons, List.nodup_cons] at hn
  refine ⟨hpq, p1, p2, ht, ?_, hc, (List.pairwise_cons.1 hd).1, fun x hx e => hn.1 (List.mem_map.2 ⟨x, hx, e⟩)⟩
  unfold remQ
  rw [if_pos hc, Int.toNat_natCast, hpq, h2, List.erase_cons_head]
  exact h3
/-- What a tick does, and what it answers. -/
def tickT (s : SS) : Option Nat := match allQ s.q with
  | [] => none
  | x :: _ => if s.rob x.2 = true ∧ ¬ (1 < s.lf x.2) then some x.2 else none
def sTick (Q : Int) (s : SS) : SS := match allQ s.q with
  | [] => s
  | x :: _ => if s.rob x.2 = true then (if 1 < s.lf x.2 then ⟨s.q, s.rob, upd s.lf x.2 (s.lf x.2 - 1)⟩ else ⟨moveQ s.q x.2 x.1 false, s.rob, upd s.lf x.2 Q⟩) else s
def tickE (o : Option Nat) (e : Ending) : Prop := match o with
  | none => e = .returned (.tuple #[.int .i64 0, .bool false])
  | some t => e = .returned (.tuple #[.int .i64 t, .bool true])
/-- What Tick leaves. -/
def TkE (w : World) (x g : Nat) (Q st : Int) (o : Option Nat) (s : SS) (e : Ending) (w' : World) : Prop := tickE o e ∧ (∃ st', st ≤ st' ∧ st' ≤ st + 9 ∧ TS w' x g Q s st') ∧ Only [x, g] w w'
theorem TC.left {cs : Array Value} {g : Nat} {Q : Int} {q : Nat → List Nat} {rob : Nat → Bool} {lf : Nat → Int} (h : TC cs g Q q rob lf) {t : Nat} (l : Int) (ht : t < 16) : TC (cs.setIfInBounds (2 + t * 4 + 3) (.int .i64 l)) g Q q rob (upd lf t l) := by
  have hz := h.size
  refine ⟨by simpa using hz, (set_ne (by omega)).trans h.r, (set_ne (by omega)).trans h.qu, fun u hu => (set_ne (by omega)).trans (h.inn u hu), fun u hu => (set_ne (by omega)).trans (h.rob u hu), fun u hu => (set_ne (by omega)).trans (h.pr u hu), fun u hu => ?_⟩
  by_cases e : u = t
  · subst e; rw [set_eq (by omega), upd_same]
  · rw [set_ne (by omega), h.lf u hu, upd_other _ _ e]
set_option maxHeartbeats 2000000 in
theorem tick_spec (x g : Nat) (Q : Int) (s : SS) (st : Int) (hst : 0 ≤ st ∧ st < 800000) (hlf : ∀ t, t < 16 → 0 ≤ s.lf t ∧ s.lf t ≤ 1000) (w : World) (h : TS w x g Q s st) :
    Calls Try.prog 13 #[ptr x] w (TkE w x g Q st (tickT s) (sTick Q s)) := by
  have RU := runs_any x g Q s.q s.rob s.lf st (by omega) w h
  have hR := h.2
  have hne := TT.ne h
  unfold tickT sTick
  cases hq : allQ s.q with
  | nil =>
    rw [show firstT s.q = 0 by unfold firstT; rw [hq], decide_eq_false (show ¬ (allQ s.q ≠ []) by rw [hq]; simp)] at RU
    have RU := hide RU
    clear hR h hq
    unfold ptr at RU ⊢
    go_enter Try.func13, Try.ntmps13
    go_wp2_with (first
      | (go_at_call 14; refine RU.out.mono ?_; rintro e w2 ⟨he, ⟨st2, s1, s2, T2⟩, o2⟩; unfold firstE at he; subst he))
    refine bodyPost_ret (v := .tuple #[.int .i64 0, .bool false]) (by simp [results, Try.results13, go_sem]) rfl ⟨rfl, ⟨st2, s1, by omega, T2⟩, o2.mono (fun k hk => .inl (by simp at hk; simp [hk]))⟩
  | cons y r =>
    obtain ⟨p, t⟩ := y
    obtain ⟨a1, a2, a3, a4, a5, a6, a7, a8⟩ := hR.first hq
    rw [show firstT s.q = (t : Int) by unfold firstT; rw [hq], decide_eq_true (show allQ s.q ≠ [] by rw [hq]; simp)] at RU
    have RU := hide RU
    have hl := hlf t a4
    have q1 : (0 : Int) ≤ (t : Int) := by omega
    have q2 : (t : Int) < 16 := by omega
    dsimp only
    have HA := hide a1
    clear hR h hq a1 a5 a6 a7 a8 hlf
    unfold ptr at RU ⊢
    cases hrb : s.rob t with
    | false =>
      rw [if_neg (by simp), if_neg (by simp)]
      go_enter Try.func13, Try.ntmps13
      go_wp2_with (first
        | (go_at_call 14; refine RU.out.mono ?_; rintro e w2 ⟨he, ⟨st2, s1, s2, T2⟩, o2⟩; unfold firstE at he; subst he; obtain ⟨⟨cs, hb, hC⟩, R2⟩ := T2; have m1 := (hb.cell (2 + t * 4 + 1)).trans (hC.rob t a4); rw [hrb] at m1; have T2 := hide (show TS w2 x g Q s st2 from ⟨⟨cs, hb, hC⟩, R2⟩); clear hb hC R2))
      refine bodyPost_ret (v := .tuple #[.int .i64 0, .bool false]) (by simp [results, Try.results13, go_sem]) rfl ⟨rfl, ⟨st2, s1, by omega, T2.out⟩, o2.mono (fun k hk => .inl (by simp at hk; simp [hk]))⟩
    | true =>
      by_cases hl1 : 1 < s.lf t
      · rw [if_neg (by simp [hl1]), if_pos rfl, if_pos hl1]
        have d1 : decide (1 < s.lf t) = true := decide_eq_true hl1
        go_enter Try.func13, Try.ntmps13
        go_wp2_with (first
          | (go_at_call 14; refine RU.out.mono ?_; rintro e w2 ⟨he, ⟨st2, s1, s2, T2⟩, o2⟩; unfold firstE at he; subst he; obtain ⟨⟨cs, hb, hC⟩, R2⟩ := T2; have m1 := (hb.cell (2 + t * 4 + 1)).trans (hC.rob t a4); rw [hrb] at m1; have m3 := (hb.cell (2 + t * 4 + 3)).trans (hC.lf t a4); have f3 := hb.frozen (2 + t * 4 + 3); have HB := hide hb; have HC := hide hC; have HR := hide R2; clear hb hC R2))
        have w1 : IntKind.i64.wrap (s.lf t - 1) = s.lf t - 1 := IntWalk.i64_in _ (by omega)
        have BB := hide (HB.out.set_ (2 + t * 4 + 3) (.int .i64 (s.lf t - 1)))
        have OO := hide ((Only.refl [x] w2).setCell (p := ⟨x, 2 + t * 4 + 3, none⟩) (.inl (by simp)) (.int .i64 (s.lf t - 1)))
        have HS1 := hide s1
        have HS2 := hide s2
        have HO := hide o2
        clear s1 s2 o2
        go_region
        all_goals go_wp2_with fail
        have R4 := HR.out.only OO.out.drew (by simp; exact Ne.symm hne)
        refine bodyPost_ret (v := .tuple #[.int .i64 0, .bool false]) (by simp [results, Try.results13, go_sem]) rfl ⟨rfl, ⟨st2, HS1.out, by have := HS2.out; omega, ⟨_, BB.out.drew, HC.out.left _ a4⟩, R4⟩, ?_⟩
        exact (HO.out.mono (T := [x, g]) (fun k hk => .inl (by simp at hk; simp [hk]))).trans OO.out.drew (fun k hk => .inl (by simp at hk; simp [hk]))
      · rw [if_pos ⟨rfl, hl1⟩, if_pos rfl, if_neg hl1]
        have d1 : decide (1 < s.lf t) = false := decide_eq_false hl1
        have GO := hide (fun W st' (hs : 0 ≤ st' ∧ st' < 900000) (h : TT W x g Q s.q s.rob s.lf st') => goes_any x g Q s.q s.rob s.lf st' hs t p false a4 a2 a3 (by rw [HA.out]; omega) W h)
        unfold ptr at GO
        go_enter Try.func13, Try.ntmps13
        go_wp2_with (first
          | (go_at_call 14; refine RU.out.mono ?_; rintro e w2 ⟨he, ⟨st2, s1, s2, T2⟩, o2⟩; unfold firstE at he; subst he; have T2' := hide T2; obtain ⟨⟨cs, hb, hC⟩, R2⟩ := T2; have m1 := (hb.cell (2 + t * 4 + 1)).trans (hC.rob t a4); rw [hrb] at m1; have m2 := (hb.cell (2 + t * 4 + 2)).trans (hC.pr t a4); rw [HA.out] at m2; have m3 := (hb.cell (2 + t * 4 + 3)).trans (hC.lf t a4); clear hb hC R2)
          | (go_at_call 38; refine (GO.out _ _ (by omega) T2'.out).mono ?_; rintro e w3 ⟨rfl, ⟨st3, s3, s4, T3⟩, o3⟩; obtain ⟨⟨cs3, hb3, hC3⟩, R3⟩ := T3; have n1 := (hb3.cell 1).trans hC3.qu; have n3 := (hb3.cell (2 + t * 4 + 3)).trans (hC3.lf t a4); have f3 := hb3.frozen (2 + t * 4 + 3); have HB := hide hb3; have HC := hide hC3; have HR := hide R3; clear hb3 hC3 R3))
        have BB := hide (HB.out.set_ (2 + t * 4 + 3) (.int .i64 Q))
        have OO := hide ((Only.refl [x] w3).setCell (p := ⟨x, 2 + t * 4 + 3, none⟩) (.inl (by simp)) (.int .i64 Q))
        have HS := hide (show st ≤ st3 ∧ st3 ≤ st + 9 by omega)
        have HO := hide ((o2.mono (T := [x, g]) (fun k hk => .inl (by simp at hk; simp [hk]))).trans' o3)
        clear s1 s2 s3 s4 o2 o3
        go_region
        all_goals go_wp2_with fail
        have R4 := HR.out.only OO.out.drew (by simp; exact Ne.symm hne)
        refine bodyPost_ret (v := .tuple #[.int .i64 t, .bool true]) (by simp [results, Try.results13, go_sem]) rfl ⟨rfl, ⟨st3, HS.out.1, HS.out.2, ⟨_, BB.out.drew, HC.out.left _ a4⟩, R4⟩, ?_⟩
        exact HO.out.trans OO.out.drew (fun k hk => .inl (by simp at hk; simp [hk]))
end Go.Proofs.Ytnndengdlokmbaa
