/- Script: what Parse laid; what Text and the Sames answer; the arguments, opened. No condition but what each theorem says. -/
import Derived.Test.YteblhklclcjonaaGreatDoorStA
import Derived.Test.YteblhklclcjonaaGreatDoorSr5
import Derived.Test.YteblhklclcjonaaGreatDoorSsB
import Derived.Test.YteblhklclcjonaaGreatDoorStC
import Derived.Test.YteblhklclcjonaaGreatDoorCd5
import Derived.WalkKit
import Derived.ProofKit
import Derived.OpenShut
import Derived.ChangeOld
import Derived.ChangeSame
import Derived.Deep.Slices
import Derived.SliceStrings
import Derived.Stop.LaidErr
import Derived.Lib.LaidTab
namespace Go.Proofs.YteblhklclcjonaaGreatDoor
open Go.RowKit
set_option linter.unusedVariables false
set_option linter.all false
set_option maxRecDepth 20000

theorem GI_len (l : List Ins) : (GI l).length = l.length * 5 := by
  induction l with
  | nil => rfl
  | cons x l ih =>
    have e : GI (x :: l) = .int .i64 x.op :: .int .i64 x.d :: .int .i64 x.a :: .int .i64 x.b :: .int .i64 x.imm :: GI l := by simp [GI, insV]
    rw [e]
    simp only [List.length_cons, ih]
    omega
theorem GI_get {l : List Ins} {k : Nat} {x : Ins} (h : l[k]? = some x) : (GI l)[k * 5]? = some (.int .i64 x.op) ∧ (GI l)[k * 5 + 1]? = some (.int .i64 x.d) ∧ (GI l)[k * 5 + 2]? = some (.int .i64 x.a) ∧ (GI l)[k * 5 + 3]? = some (.int .i64 x.b) ∧ (GI l)[k * 5 + 4]? = some (.int .i64 x.imm) := by
  induction l generalizing k with
  | nil => simp at h
  | cons y l ih =>
    have e : GI (y :: l) = .int .i64 y.op :: .int .i64 y.d :: .int .i64 y.a :: .int .i64 y.b :: .int .i64 y.imm :: GI l := by simp [GI, insV]
    cases k with
    | zero =>
      simp at h
      subst h
      rw [e]
      exact ⟨rfl, rfl, rfl, rfl, rfl⟩
    | succ k =>
      simp at h
      have := ih h
      rw [e, show (k + 1) * 5 = k * 5 + 5 by omega]
      simpa using this
def z0I : Ins := ⟨0, 0, 0, 0, 0⟩
def insF (p : List Ins) (k : Nat) : Ins := p.getD k z0I
theorem Is.at_ {w : World} {B : Nat} {A : Option Addr} {c : Nat} {p : List Ins} (h : Is w B A c p) : InsAt w A p.length (insF p) := by
  intro k hk
  obtain ⟨g, rfl, h1, _⟩ := own_cell h (by omega)
  have hx : p[k]? = some (insF p k) := by unfold insF; rw [List.getD_eq_getElem?_getD, List.getElem?_eq_getElem hk]; rfl
  obtain ⟨a, b, d, e, f⟩ := GI_get hx
  refine ⟨⟨g, 0, none⟩, rfl, ?_⟩
  rw [add_mk, Nat.zero_add]
  exact ⟨(h1 (k * 5) (by omega)).trans a, (h1 (k * 5 + 1) (by omega)).trans b, (h1 (k * 5 + 2) (by omega)).trans d, (h1 (k * 5 + 3) (by omega)).trans e, (h1 (k * 5 + 4) (by omega)).trans f⟩
def evF (l : List Ev) (k : Nat) : Ev := l.getD k ⟨0, 0⟩
theorem Es.at_ {w : World} {B : Nat} {A : Option Addr} {c : Nat} {l : List Ev} (h : Es w B A c l) : EvAt w A l.length (evF l) := by
  intro k hk
  have hx : l[k]? = some (evF l k) := by unfold evF; rw [List.getD_eq_getElem?_getD, List.getElem?_eq_getElem hk]; rfl
  obtain ⟨g, rfl, h1, h2⟩ := h.cells hx
  refine ⟨⟨g, 0, none⟩, rfl, ?_⟩
  rw [add_mk, Nat.zero_add]
  exact ⟨h1, h2⟩
theorem Es.lt_ {w : World} {B : Nat} {A : Option Addr} {c : Nat} {l : List Ev} (h : Es w B A c l) : EvLt A w.heap.size := by
  intro a ha
  subst ha
  obtain ⟨cs, hb⟩ := own_ty h a.block (by simp [blkOf])
  exact hb.lt
def pgF (vs : List (Option Addr × Nat)) (ps : List (List Ins)) (k : Nat) : Pg := ⟨(vs.getD k (none, 0)).1, (ps.getD k []).length, (vs.getD k (none, 0)).2, insF (ps.getD k [])⟩
theorem Ps.at_ {w : World} {B : Nat} {A : Option Addr} {c : Nat} {vs : List (Option Addr × Nat)} {ps : List (List Ins)} (h : Ps w B A c vs ps) (hg : ∀ p ∈ ps, p.length ≤ 256) : PgsAt w A ps.length (pgF vs ps) := by
  intro k hk
  have hv : k < vs.length := by rw [h.len]; exact hk
  obtain ⟨g, rfl, h1, _⟩ := own_cell h.row (by omega)
  have ev : vs.getD k (none, 0) = vs[k] := by rw [List.getD_eq_getElem?_getD, List.getElem?_eq_getElem hv]; rfl
  have ep : ps.getD k [] = ps[k] := by rw [List.getD_eq_getElem?_getD, List.getElem?_eq_getElem hk]; rfl
  have hz : (vs[k], ps[k]) ∈ vs.zip ps := by
    rw [List.mem_iff_getElem]
    exact ⟨k, by simp; omega, by simp⟩
  have hgk := hg _ (List.getElem_mem hk)
  refine ⟨⟨g, 0, none⟩, rfl, ?_, ?_, ?_⟩
  · rw [add_mk, Nat.zero_add, h1 k (by omega)]
    unfold psV pgF
    rw [ev, ep, List.getElem?_map, List.getElem?_eq_getElem (by simp; omega)]
    simp
  · unfold pgF maxLen
    rw [ep]
    simp only
    omega
  · unfold pgF
    rw [ev, ep]
    exact (h.each _ hz).at_
def txF (ts : List (List UInt8)) (k : Nat) : ByteArray := bs (ts.getD k [])
theorem Qs.at_ {w : World} {B : Nat} {A : Option Addr} {c : Nat} {ts : List (List UInt8)} (h : Qs w B A c (ts.map bs)) : TxsAt w A ts.length (txF ts) := by
  intro k hk
  obtain ⟨g, rfl, h1, _⟩ := own_cell h (by simp; omega)
  have et : ts.getD k [] = ts[k] := by rw [List.getD_eq_getElem?_getD, List.getElem?_eq_getElem hk]; rfl
  refine ⟨⟨g, 0, none⟩, rfl, ?_⟩
  rw [add_mk, Nat.zero_add, h1 k (by simp; omega)]
  unfold Strs txF
  rw [et, List.map_map, List.getElem?_map, List.getElem?_eq_getElem hk]
  rfl
/-- What Parse has laid, as a job. -/
def jbOf (s : Sc) (A : Option Addr) (k : Nat) (vs : List (Option Addr × Nat)) (TA : Option Addr) (tc : Nat) : Jb := ⟨s.v 0, s.v 1, s.v 2, s.v 3, s.v 4, s.v 5, A, s.ps.length, k, pgF vs s.ps, TA, s.ts.length, tc, txF s.ts⟩
theorem map_getD {α β : Type} (l : List α) (d : α) (f : α → β) : (List.range l.length).map (fun k => f (l.getD k d)) = l.map f := by
  apply List.ext_getElem?
  intro i
  by_cases hi : i < l.length
  · rw [List.getElem?_map, List.getElem?_range hi, List.getElem?_map, List.getElem?_eq_getElem hi]
    simp [List.getD_eq_getElem?_getD, List.getElem?_eq_getElem hi]
  · rw [List.getElem?_eq_none (by simp; omega), List.getElem?_eq_none (by simp; omega)]
theorem insL_F (p : List Ins) : insL p.length (insF p) = p := by
  have := map_getD p z0I id
  rw [List.map_id] at this
  exact this
theorem evL_F (l : List Ev) : evL l.length (evF l) = l := by
  have := map_getD l (⟨0, 0⟩ : Ev) id
  rw [List.map_id] at this
  exact this
theorem psL_F (vs : List (Option Addr × Nat)) (ps : List (List Ins)) : psL ps.length (pgF vs ps) = ps := by
  have := map_getD ps [] (fun p => insL p.length (insF p))
  simp only [insL_F, List.map_id'] at this
  unfold psL pgF
  simp only [insL_F]
  exact this
theorem tsL_F (ts : List (List UInt8)) : tsL ts.length (txF ts) = ts := by
  have := map_getD ts [] id
  simpa [tsL, txF, bs_list] using this
theorem sc_jbOf (s : Sc) (A : Option Addr) (k : Nat) (vs : List (Option Addr × Nat)) (TA : Option Addr) (tc : Nat) : scOf (jbOf s A k vs TA tc) s.es.length (evF s.es) = ⟨v9 (jbOf s A k vs TA tc), s.ps, s.ts, s.es⟩ := by
  unfold scOf
  rw [evL_F]
  show (⟨_, psL s.ps.length (pgF vs s.ps), tsL s.ts.length (txF s.ts), _⟩ : Sc) = _
  rw [psL_F, tsL_F]
theorem v9_jbOf (s : Sc) (A : Option Addr) (k : Nat) (vs : List (Option Addr × Nat)) (TA : Option Addr) (tc : Nat) : ∀ q, q < 6 → v9 (jbOf s A k vs TA tc) q = s.v q := by
  intro q hq
  rcases (by omega : q = 0 ∨ q = 1 ∨ q = 2 ∨ q = 3 ∨ q = 4 ∨ q = 5) with h | h | h | h | h | h <;> subst h <;> rfl
theorem good_jbOf {s : Sc} (h : GoodS s) (A : Option Addr) (k : Nat) (vs : List (Option Addr × Nat)) (TA : Option Addr) (tc : Nat) : GoodJE (jbOf s A k vs TA tc) s.es.length (evF s.es) := by
  refine sc_good ?_
  rw [sc_jbOf]
  exact ⟨by show numOk _ = true; rw [numOk_congr (v9_jbOf s A k vs TA tc)]; exact h.v, h.p0, h.pl, h.pg, h.tl, h.tg, h.el, h.eg⟩
theorem scrT_jbOf (s : Sc) (A : Option Addr) (k : Nat) (vs : List (Option Addr × Nat)) (TA : Option Addr) (tc : Nat) : scrT (jbOf s A k vs TA tc) s.es.length (evF s.es) = scrB s := by
  rw [scrT_B, sc_jbOf]
  exact scrB_congr (a := ⟨_, s.ps, s.ts, s.es⟩) (b := s) (v9_jbOf s A k vs TA tc) rfl rfl rfl
theorem jb_at {w : World} {B : Nat} {s : Sc} {A : Option Addr} {k : Nat} {vs : List (Option Addr × Nat)} {TA : Option Addr} {tc : Nat} (h : GoodS s) (hp : Ps w B A k vs s.ps) (hq : Qs w B TA tc (s.ts.map bs)) : JbAt w (jbOf s A k vs TA tc) :=
  ⟨hp.at_ (fun p hm => (h.pg p hm).1), hq.at_, by show s.ps.length ≤ maxLen; have := h.pl; unfold maxLen; omega, by show s.ts.length ≤ maxLen; have := h.tl; unfold maxLen; omega⟩
theorem imm_jbOf {s : Sc} (h : GoodS s) (A : Option Addr) (k : Nat) (vs : List (Option Addr × Nat)) (TA : Option Addr) (tc : Nat) : ImmOk (jbOf s A k vs TA tc) := fun q hq i hi => ((good_jbOf h A k vs TA tc).job.prog q hq).imm i hi
end Go.Proofs.YteblhklclcjonaaGreatDoor
namespace Go.Proofs.YteblhklclcjonaaGreatDoor
open Go.RowKit
set_option linter.unusedVariables false
set_option linter.all false
set_option maxRecDepth 20000

theorem mapr_eq {α : Type} {n m : Nat} {f g : Nat → α} : (List.range n).map f = (List.range m).map g ↔ n = m ∧ ∀ k, k < n → f k = g k := by
  constructor
  · intro h
    have hl := congrArg List.length h
    simp at hl
    subst hl
    refine ⟨rfl, fun k hk => ?_⟩
    have := congrArg (fun l => l[k]?) h
    simp only [List.getElem?_map, List.getElem?_range hk, Option.map_some, Option.some.injEq] at this
    exact this
  · rintro ⟨rfl, h⟩
    exact List.map_congr_left (fun k hk => h k (List.mem_range.1 hk))
theorem sameB_iff {n m : Nat} {f g : Nat → Ins} : sameB n f m g = true ↔ insL n f = insL m g := by
  have : sameB n f m g = eqG n m (fun k => insEq (f k) (g k)) := rfl
  rw [this, eqG_iff]
  unfold insL
  rw [mapr_eq]
  simp only [insEq_iff]
theorem psB_iff {J K : Jb} : psB J K = true ↔ psL J.pn J.P = psL K.pn K.P := by
  unfold psB psL
  rw [eqG_iff, mapr_eq]
  simp only [sameB_iff]
theorem data_inj {a b : ByteArray} (h : a.data.toList = b.data.toList) : a = b := by rw [← bs_of a, ← bs_of b, h]
theorem tsB_iff {J K : Jb} : tsB J K = true ↔ tsL J.tn J.T = tsL K.tn K.T := by
  unfold tsB tsL
  rw [eqG_iff, mapr_eq]
  constructor
  · rintro ⟨h, h2⟩
    exact ⟨h, fun k hk => by rw [of_decide_eq_true (h2 k hk)]⟩
  · rintro ⟨h, h2⟩
    exact ⟨h, fun k hk => decide_eq_true (data_inj (h2 k hk))⟩
theorem esB_iff {n m : Nat} {f g : Nat → Ev} : esB n m f g = true ↔ evL n f = evL m g := by
  unfold esB evL
  rw [eqG_iff, mapr_eq]
  simp only [evEq_iff]
/-- What Same answers, the document's. -/
def smB (J : Jb) (n : Nat) (f : Nat → Ev) (K : Jb) (m : Nat) (g : Nat → Ev) : Bool := hdB J K && ((psB J K && tsB J K) && esB n m f g)
def rsB (J : Jb) (n : Nat) (f : Nat → Ev) (K : Jb) (m : Nat) (g : Nat → Ev) : Bool := sjB J K && esB n m f g
theorem smB_iff {J K : Jb} {n m : Nat} {f g : Nat → Ev} : smB J n f K m g = true ↔ headB (v9 J) = headB (v9 K) ∧ psL J.pn J.P = psL K.pn K.P ∧ tsL J.tn J.T = tsL K.tn K.T ∧ evL n f = evL m g := by
  unfold smB hdB
  simp only [Bool.and_eq_true, decide_eq_true_eq, psB_iff, tsB_iff, esB_iff, and_assoc]
theorem v6B_iff {J K : Jb} : v6B J K = true ↔ ∀ q, q < 6 → v9 J q = v9 K q := by
  unfold v6B
  simp only [Bool.and_eq_true, Bool.not_eq_true', bne_eq_false_iff_eq]
  constructor
  · rintro ⟨h0, h1, h2, h3, h4, h5⟩ q hq
    rcases (by omega : q = 0 ∨ q = 1 ∨ q = 2 ∨ q = 3 ∨ q = 4 ∨ q = 5) with h | h | h | h | h | h <;> subst h <;> assumption
  · intro h
    exact ⟨h 0 (by omega), h 1 (by omega), h 2 (by omega), h 3 (by omega), h 4 (by omega), h 5 (by omega)⟩
theorem rsB_iff {J K : Jb} {n m : Nat} {f g : Nat → Ev} : rsB J n f K m g = true ↔ (∀ q, q < 6 → v9 J q = v9 K q) ∧ psL J.pn J.P = psL K.pn K.P ∧ tsL J.tn J.T = tsL K.tn K.T ∧ evL n f = evL m g := by
  unfold rsB sjB
  simp only [Bool.and_eq_true, v6B_iff, psB_iff, tsB_iff, esB_iff, and_assoc]
theorem sm_scr {J K : Jb} {n m : Nat} {f g : Nat → Ev} (h : GoodJE J n f) (k : GoodJE K m g) : smB J n f K m g = true ↔ scrT J n f = scrT K m g := by
  rw [smB_iff, scrT_B, scrT_B]
  constructor
  · rintro ⟨h1, h2, h3, h4⟩
    unfold scrB jobB scOf
    simp only
    rw [h1, h2, h3, h4]
  · intro hs
    obtain ⟨h1, h2, h3, h4⟩ := numOk_inj (good_sc h) (good_sc k) (scrB_all (good_sc h)) hs
    exact ⟨headN_congr 6 h1, h2, h3, h4⟩
theorem sm_rs {J K : Jb} {n m : Nat} {f g : Nat → Ev} (h : GoodJE J n f) (k : GoodJE K m g) : smB J n f K m g = rsB J n f K m g := by
  have : smB J n f K m g = true ↔ rsB J n f K m g = true := by
    rw [rsB_iff]
    constructor
    · intro hs
      exact numOk_inj (good_sc h) (good_sc k) (scrB_all (good_sc h)) (by rw [← scrT_B, ← scrT_B]; exact (sm_scr h k).1 hs)
    · rintro ⟨h1, h2, h3, h4⟩
      exact smB_iff.2 ⟨headN_congr 6 h1, h2, h3, h4⟩
  cases hs : smB J n f K m g <;> cases hr : rsB J n f K m g <;> simp_all
/-- What Text answers: a text and an error. -/
theorem text_ans (J : Jb) (A : Option Addr) (n c : Nat) (f : Nat → Ev) (w : World) (he : Env w) (hJ : JbAt w J) (hi : ImmOk J) (hE : EvAt w A n f) (hA : EvLt A w.heap.size) (hn : n ≤ maxLen) :
    ∃ (sa : ByteArray) (ea : Int), (0 ≤ ea ∧ ea ≤ 3) ∧ (∀ W, Only [] w W → Calls Tryz.prog 23 #[.agg (sc9 J A n c)] W fun e w' => e = .returned (.tuple #[.string sa, .int .i64 ea]) ∧ Only [] W w') ∧ (ea = 0 → GoodJE J n f ∧ sa = bs (scrT J n f)) := by
  by_cases h : (chkE J n f).2 = 0
  · have hg := chk_zero h hi
    exact ⟨_, 0, by omega, fun W o => stext_good J A n c f W (he.only o) (jb_only0 hJ o) (hE.only0 o) (fun a ha => by have := hA a ha; have := o.size; omega) hg, fun _ => ⟨hg, rfl⟩⟩
  · refine ⟨_, (chkE J n f).2, ?_, fun W o => stext_bad J A n c f W (jb_only0 hJ o) (hE.only0 o) hn h, fun h0 => absurd h0 h⟩
    unfold chkE
    have hj : jobE J = 0 ∨ jobE J = 2 := by unfold jobE; split <;> simp
    split
    · simp only; omega
    · split
      · simp only; omega
      · split <;> (simp only; omega)
theorem v64_good {s : Sc} (h : GoodS s) (A : Option Addr) (k : Nat) (vs : List (Option Addr × Nat)) (TA : Option Addr) (tc : Nat) : V64 (jbOf s A k vs TA tc) := fun q hq => by
  have := numOk_nat h.v q hq
  rw [v9_jbOf s A k vs TA tc q hq]
  omega
/-- What was read of a script's text is the script. -/
theorem sm_read {J : Jb} {n : Nat} {f : Nat → Ev} {v : Nat → Int} (hv : ∀ q, q < 6 → v q = v9 J q) (A : Option Addr) (k : Nat) (vs : List (Option Addr × Nat)) (TA : Option Addr) (tc : Nat) : smB (jbOf ⟨v, psL J.pn J.P, tsL J.tn J.T, evL n f⟩ A k vs TA tc) (evL n f).length (evF (evL n f)) J n f = true := by
  rw [smB_iff]
  refine ⟨headN_congr 6 (fun q hq => ?_), psL_F _ _, tsL_F _, evL_F _⟩
  rw [v9_jbOf _ A k vs TA tc q hq]
  exact hv q hq
end Go.Proofs.YteblhklclcjonaaGreatDoor
namespace Go.Proofs.YteblhklclcjonaaGreatDoor
open Go.ChangeShapes Go.WideShapes Go.ChangeAt Go.RowKit Go.Deep
set_option linter.unusedVariables false
set_option linter.all false
set_option maxRecDepth 20000

theorem cells1 : Tryz.prog.cellsOf 97 = 1 ∧ Tryz.prog.cellsOf 3 = 1 ∧ Tryz.prog.cellsOf 24 = 2 ∧ Tryz.prog.cellsOf 99 = 5 ∧ Tryz.prog.cellsOf 54 = 9 :=
  ⟨by kernel_rfl, by kernel_rfl, by kernel_rfl, by kernel_rfl, by kernel_rfl⟩
theorem cells2 : Tryz.prog.cellsOf 67 = 1 ∧ Tryz.prog.cellsOf 9 = 1 ∧ Tryz.prog.cellsOf 52 = 8 ∧ Tryz.prog.cellsOf 49 = 1 ∧ Tryz.prog.cellsOf 50 = 1 :=
  ⟨by kernel_rfl, by kernel_rfl, by kernel_rfl, by kernel_rfl, by kernel_rfl⟩
theorem types54 : Tryz.prog.cellTypes Tryz.prog.depth 54 = some [3, 3, 3, 3, 3, 3, 49, 50, 27] := by kernel_rfl
theorem list2s {cs : List Value} (h : cs.length = 2) : ∃ a b, cs = [a, b] := by
  match cs, h with
  | [a, b], _ => exact ⟨a, b, rfl⟩
theorem list5 {cs : List Value} (h : cs.length = 5) : ∃ a b c d e, cs = [a, b, c, d, e] := by
  match cs, h with
  | [a, b, c, d, e], _ => exact ⟨a, b, c, d, e, rfl⟩
theorem array9 {cs : Array Value} (h : cs.size = 9) : ∃ a b c d e f g i j, cs = #[a, b, c, d, e, f, g, i, j] := by
  rcases cs with ⟨l⟩
  match l, h with
  | [a, b, c, d, e, f, g, i, j], _ => exact ⟨a, b, c, d, e, f, g, i, j, rfl⟩
section
variable {H : Type} {enc : TypeId × Value → H} {W : World} {sp : Nat → Bool} {held : Bool}
theorem ev_cells {base fuel : Nat} {c0 c1 : Value} {x : DataW H × List MemPlace} (hf : DataW.trod enc Tryz.prog W base sp held fuel 24 [c0, c1] = some x) :
    ∃ k m : Int, c0 = .int .i64 k ∧ c1 = .int .i64 m := by
  obtain ⟨xs, m, _, _, _, hl, hat⟩ := DataW.trod_struct Tryz.underlying24 hf
  have hl : xs.length = 2 := hl
  have a0 := hat 0 _ rfl
  have a1 := hat 1 _ rfl
  rw [List.getElem?_eq_getElem (by omega)] at a0 a1
  change DataW.trod _ _ _ _ _ _ _ 22 [c0] = _ at a0
  change DataW.trod _ _ _ _ _ _ _ 3 [c1] = _ at a1
  obtain ⟨x0, e0, _, w0⟩ := DataW.trod_int Tryz.underlying22 a0
  obtain ⟨x1, e1, _, w1⟩ := DataW.trod_int Tryz.underlying3 a1
  simp at e0 e1
  exact ⟨x0, x1, e0, e1⟩
def insOk (i : Ins) : Prop := ∀ x ∈ [i.op, i.d, i.a, i.b, i.imm], -9223372036854775808 ≤ x ∧ x ≤ 9223372036854775807
/-- An instruction's five cells. -/
theorem ins_cells {base fuel : Nat} {c0 c1 c2 c3 c4 : Value} {x : DataW H × List MemPlace} (hf : DataW.trod enc Tryz.prog W base sp held fuel 99 [c0, c1, c2, c3, c4] = some x) :
    ∃ i : Ins, [c0, c1, c2, c3, c4] = (insV i).toList ∧ insOk i := by
  obtain ⟨xs, m, _, _, _, hl, hat⟩ := DataW.trod_struct Tryz.underlying99 hf
  have hl : xs.length = 5 := hl
  obtain ⟨k22, k3, k2, _, _, _⟩ := cells1
  have a0 := hat 0 _ rfl
  have a1 := hat 1 _ rfl
  have a2 := hat 2 _ rfl
  have a3 := hat 3 _ rfl
  have a4 := hat 4 _ rfl
  rw [List.getElem?_eq_getElem (by omega)] at a0 a1 a2 a3 a4
  change DataW.trod _ _ _ _ _ _ _ 97 [c0] = _ at a0
  change DataW.trod _ _ _ _ _ _ _ 3 [c1] = _ at a1
  change DataW.trod _ _ _ _ _ _ _ 3 [c2] = _ at a2
  change DataW.trod _ _ _ _ _ _ _ 3 [c3] = _ at a3
  change DataW.trod _ _ _ _ _ _ _ 2 [c4] = _ at a4
  obtain ⟨x0, e0, _, w0⟩ := DataW.trod_int Tryz.underlying97 a0
  obtain ⟨x1, e1, _, w1⟩ := DataW.trod_int Tryz.underlying3 a1
  obtain ⟨x2, e2, _, w2⟩ := DataW.trod_int Tryz.underlying3 a2
  obtain ⟨x3, e3, _, w3⟩ := DataW.trod_int Tryz.underlying3 a3
  obtain ⟨x4, e4, _, w4⟩ := DataW.trod_int Tryz.underlying2 a4
  simp at e0 e1 e2 e3 e4
  subst e0 e1 e2 e3 e4
  refine ⟨⟨x0, x1, x2, x3, x4⟩, rfl, fun y hy => ?_⟩
  simp at hy
  rcases hy with rfl | rfl | rfl | rfl | rfl
  · exact bounds_i64 w0
  · exact bounds_i64 w1
  · exact bounds_i64 w2
  · exact bounds_i64 w3
  · exact bounds_i64 w4
/-- A program's cells. -/
theorem prog_cells {base fuel : Nat} {cs : List Value} {x : DataW H × List MemPlace} (hf : DataW.trod enc Tryz.prog W base sp held fuel 67 cs = some x) :
    ∃ (A : Option Addr) (n c : Nat) (f : Nat → Ins), cs = [.slice A n c] ∧ n ≤ maxLen ∧ InsAt W A n f ∧ ∀ k, k < n → insOk (f k) := by
  rcases open_slice Tryz.underlying67 hf with ⟨hcs, _⟩ | ⟨a, len, cap, m, n, D, Pl, hcs, hb, hl, hm, hmm, hx, hi⟩
  · exact ⟨none, 0, 0, fun _ => ⟨0, 0, 0, 0, 0⟩, hcs, Nat.zero_le _, fun k hk => by omega, fun k hk => by omega⟩
  · rw [cells1.2.2.2.1] at hi
    have hmk : len ≤ m := by rw [hmm]; split <;> omega
    have H1 : ∀ k : Nat, ∃ i : Ins, k < len → insOk i ∧ W.cell? (a.add (k * 5)) = some (.int .i64 i.op) ∧ W.cell? ⟨(a.add (k * 5)).block, (a.add (k * 5)).off + 1, none⟩ = some (.int .i64 i.d) ∧ W.cell? ⟨(a.add (k * 5)).block, (a.add (k * 5)).off + 2, none⟩ = some (.int .i64 i.a) ∧ W.cell? ⟨(a.add (k * 5)).block, (a.add (k * 5)).off + 3, none⟩ = some (.int .i64 i.b) ∧ W.cell? ⟨(a.add (k * 5)).block, (a.add (k * 5)).off + 4, none⟩ = some (.int .i64 i.imm) := by
      intro k
      by_cases hk : k < len
      · obtain ⟨cs', hc, ht⟩ := hi k (by omega)
        obtain ⟨_, hcl, hat⟩ := World.cells?_some hc
        obtain ⟨c0, c1, c2, c3, c4, rfl⟩ := list5 hcl
        obtain ⟨i, hv, ho⟩ := ins_cells ht
        have e : [c0, c1, c2, c3, c4] = [.int .i64 i.op, .int .i64 i.d, .int .i64 i.a, .int .i64 i.b, .int .i64 i.imm] := hv
        simp only [List.cons.injEq, and_true] at e
        obtain ⟨rfl, rfl, rfl, rfl, rfl⟩ := e
        exact ⟨i, fun _ => ⟨ho, hat 0 (by omega), hat 1 (by omega), hat 2 (by omega), hat 3 (by omega), hat 4 (by omega)⟩⟩
      · exact ⟨⟨0, 0, 0, 0, 0⟩, fun h => absurd h hk⟩
    obtain ⟨f, hf⟩ := Classical.axiomOfChoice H1
    exact ⟨some a, len, cap, f, hcs, by omega, fun k hk => ⟨a, rfl, (hf k hk).2⟩, fun k hk => (hf k hk).1⟩
theorem progs_cells {base fuel : Nat} {cs : List Value} {x : DataW H × List MemPlace} (hf : DataW.trod enc Tryz.prog W base sp held fuel 49 cs = some x) :
    ∃ (A : Option Addr) (n c : Nat) (P : Nat → Pg), cs = [.slice A n c] ∧ n ≤ maxLen ∧ PgsAt W A n P ∧ ∀ k, k < n → ∀ i, i < (P k).n → insOk ((P k).f i) := by
  rcases open_slice Tryz.underlying49 hf with ⟨hcs, _⟩ | ⟨a, len, cap, m, n, D, Pl, hcs, hb, hl, hm, hmm, hx, hi⟩
  · exact ⟨none, 0, 0, fun _ => ⟨none, 0, 0, fun _ => ⟨0, 0, 0, 0, 0⟩⟩, hcs, Nat.zero_le _, fun k hk => by omega, fun k hk => by omega⟩
  · rw [cells2.1] at hi
    have hmk : len ≤ m := by rw [hmm]; split <;> omega
    have H1 : ∀ k : Nat, ∃ p : Pg, k < len → W.cell? (a.add k) = some (.slice p.A p.n p.c) ∧ p.n ≤ maxLen ∧ InsAt W p.A p.n p.f ∧ ∀ i, i < p.n → insOk (p.f i) := by
      intro k
      by_cases hk : k < len
      · obtain ⟨cs', hc, ht⟩ := hi k (by omega)
        obtain ⟨_, hcl, hat⟩ := World.cells?_some hc
        obtain ⟨A, n', c', f, rfl, h1, h2, h3⟩ := prog_cells ht
        have h0 := hat 0 (by omega)
        rw [Nat.mul_one] at h0
        exact ⟨⟨A, n', c', f⟩, fun _ => ⟨h0, h1, h2, h3⟩⟩
      · exact ⟨⟨none, 0, 0, fun _ => ⟨0, 0, 0, 0, 0⟩⟩, fun h => absurd h hk⟩
    obtain ⟨P, hP⟩ := Classical.axiomOfChoice H1
    exact ⟨some a, len, cap, P, hcs, by omega, fun k hk => ⟨a, rfl, (hP k hk).1, (hP k hk).2.1, (hP k hk).2.2.1⟩, fun k hk => (hP k hk).2.2.2⟩
theorem texts_cells {base fuel : Nat} {cs : List Value} {x : DataW H × List MemPlace} (hf : DataW.trod enc Tryz.prog W base sp held fuel 50 cs = some x) :
    ∃ (A : Option Addr) (n c : Nat) (T : Nat → ByteArray), cs = [.slice A n c] ∧ n ≤ maxLen ∧ TxsAt W A n T := by
  rcases open_strings Tryz.underlying50 Tryz.underlying9 cells2.2.1 hf with ⟨hcs, _⟩ | ⟨a, len, cap, ss, hcs, hb, hl, hm, hmm, hx, hi, _⟩
  · exact ⟨none, 0, 0, fun _ => .empty, hcs, Nat.zero_le _, fun k hk => by omega⟩
  · have hmk : len ≤ ss.length := by rw [hmm]; split <;> omega
    exact ⟨some a, len, cap, fun k => ss.getD k ByteArray.empty, hcs, by omega, fun k hk => ⟨a, rfl, hi k (by omega)⟩⟩
theorem evs_cells {base fuel : Nat} {cs : List Value} {x : DataW H × List MemPlace} (hf : DataW.trod enc Tryz.prog W base sp held fuel 27 cs = some x) :
    ∃ (A : Option Addr) (n c : Nat) (f : Nat → Ev), cs = [.slice A n c] ∧ n ≤ maxLen ∧ EvAt W A n f := by
  rcases open_slice Tryz.underlying27 hf with ⟨hcs, _⟩ | ⟨a, n, cap, m, q, D, Pl, hcs, hb, hl, hm, hmm, hx, hi⟩
  · exact ⟨none, 0, 0, fun _ => ⟨0, 0⟩, hcs, Nat.zero_le _, fun k hk => by omega⟩
  · rw [cells1.2.2.1] at hi
    have hmk : n ≤ m := by rw [hmm]; split <;> omega
    have H1 : ∀ k : Nat, ∃ i : Ev, k < n → W.cell? (a.add (k * 2)) = some (.int .i64 i.kind) ∧ W.cell? ⟨(a.add (k * 2)).block, (a.add (k * 2)).off + 1, none⟩ = some (.int .i64 i.num) := by
      intro k
      by_cases hk : k < n
      · obtain ⟨cs', hc, ht⟩ := hi k (by omega)
        obtain ⟨_, hcl, hat⟩ := World.cells?_some hc
        obtain ⟨c0, c1, rfl⟩ := list2s hcl
        obtain ⟨u, v, rfl, rfl⟩ := ev_cells ht
        exact ⟨⟨u, v⟩, fun _ => ⟨hat 0 (by omega), hat 1 (by omega)⟩⟩
      · exact ⟨⟨0, 0⟩, fun h => absurd h hk⟩
    obtain ⟨f, hf⟩ := Classical.axiomOfChoice H1
    exact ⟨some a, n, cap, f, hcs, by omega, fun k hk => ⟨a, rfl, hf k hk⟩⟩
theorem ev_lt {r : Reach} {b0 : Nat} {A : Option Addr} {n c : Nat} (h : Cell.okWide Tryz.prog W r b0 27 (.slice A n c)) : EvLt A W.heap.size := by
  intro a ha
  subst ha
  simp only [Tryz.underlying27, Cell.okWide, Cell.ok] at h
  obtain ⟨_, _, _, _, row, cells, hsh, _⟩ := h
  rcases Nat.lt_or_ge a.block W.heap.size with q | q
  · exact q
  · unfold World.shape? at hsh
    rw [Array.getElem?_eq_none q] at hsh
    cases hsh
theorem open_script {r : Reach} {base b0 : Nat} {v : Value} {d : DataW H} {p : List MemPlace} (hval : Value.okWide Tryz.prog W r b0 54 v) (h : DataW.Trod enc Tryz.prog W base sp held 54 v d p) :
    ∃ (J : Jb) (A : Option Addr) (n c : Nat) (f : Nat → Ev), v = .agg (sc9 J A n c) ∧ JbAt W J ∧ V64 J ∧ ImmOk J ∧ EvAt W A n f ∧ EvLt A W.heap.size ∧ n ≤ maxLen := by
  have hval2 := hval
  simp only [Value.okWide, Tryz.underlying54] at hval2
  obtain ⟨cs2, hcs2, _, ts, hts, _, hrow⟩ := hval2
  rw [types54] at hts
  injection hts with hts
  subst hts
  obtain ⟨cs, rfl, hc⟩ := okWide_struct Tryz.underlying54 hval
  injection hcs2 with hcs2
  subst hcs2
  rw [cells1.2.2.2.2] at hc
  obtain ⟨c0, c1, c2, c3, c4, c5, c6, c7, c8, rfl⟩ := array9 hc
  obtain ⟨fuel, hf⟩ := h
  obtain ⟨xs, m, _, _, _, hl, hat⟩ := DataW.trod_struct Tryz.underlying54 hf
  have hl : xs.length = 2 := hl
  have aj := hat 0 _ rfl
  have ae := hat 1 _ rfl
  rw [List.getElem?_eq_getElem (by omega)] at aj ae
  change DataW.trod _ _ _ _ _ _ _ 52 [c0, c1, c2, c3, c4, c5, c6, c7] = _ at aj
  change DataW.trod _ _ _ _ _ _ _ 27 [c8] = _ at ae
  obtain ⟨A, n, c, f, ec, hn, hE⟩ := evs_cells ae
  simp at ec
  subst ec
  have hlt : EvLt A W.heap.size := by
    obtain ⟨u, hu, hok⟩ := hrow 8 (.slice A n c) rfl
    simp at hu
    subst hu
    exact ev_lt hok
  obtain ⟨ys, m', _, _, _, hl', hat'⟩ := DataW.trod_struct Tryz.underlying52 aj
  have hl' : ys.length = 8 := hl'
  have a0 := hat' 0 _ rfl
  have a1 := hat' 1 _ rfl
  have a2 := hat' 2 _ rfl
  have a3 := hat' 3 _ rfl
  have a4 := hat' 4 _ rfl
  have a5 := hat' 5 _ rfl
  have a6 := hat' 6 _ rfl
  have a7 := hat' 7 _ rfl
  rw [List.getElem?_eq_getElem (by omega)] at a0 a1 a2 a3 a4 a5 a6 a7
  change DataW.trod _ _ _ _ _ _ _ 3 [c0] = _ at a0
  change DataW.trod _ _ _ _ _ _ _ 3 [c1] = _ at a1
  change DataW.trod _ _ _ _ _ _ _ 3 [c2] = _ at a2
  change DataW.trod _ _ _ _ _ _ _ 3 [c3] = _ at a3
  change DataW.trod _ _ _ _ _ _ _ 3 [c4] = _ at a4
  change DataW.trod _ _ _ _ _ _ _ 3 [c5] = _ at a5
  change DataW.trod _ _ _ _ _ _ _ 49 [c6] = _ at a6
  change DataW.trod _ _ _ _ _ _ _ 50 [c7] = _ at a7
  obtain ⟨x0, e0, _, w0⟩ := DataW.trod_int Tryz.underlying3 a0
  obtain ⟨x1, e1, _, w1⟩ := DataW.trod_int Tryz.underlying3 a1
  obtain ⟨x2, e2, _, w2⟩ := DataW.trod_int Tryz.underlying3 a2
  obtain ⟨x3, e3, _, w3⟩ := DataW.trod_int Tryz.underlying3 a3
  obtain ⟨x4, e4, _, w4⟩ := DataW.trod_int Tryz.underlying3 a4
  obtain ⟨x5, e5, _, w5⟩ := DataW.trod_int Tryz.underlying3 a5
  obtain ⟨pA, pn, pc, P, e6, h6, h6', h6''⟩ := progs_cells a6
  obtain ⟨tA, tn, tc, T, e7, h7, h7'⟩ := texts_cells a7
  simp at e0 e1 e2 e3 e4 e5 e6 e7
  subst e0 e1 e2 e3 e4 e5 e6 e7
  refine ⟨⟨x0, x1, x2, x3, x4, x5, pA, pn, pc, P, tA, tn, tc, T⟩, A, n, c, f, rfl, ⟨h6', h7', h6, h7⟩, ?_, fun k hk i hi => h6'' k hk i hi _ (by simp), hE, hlt, hn⟩
  intro q hq
  rcases (by omega : q = 0 ∨ q = 1 ∨ q = 2 ∨ q = 3 ∨ q = 4 ∨ q = 5) with h | h | h | h | h | h <;> subst h
  · exact bounds_i64 w0
  · exact bounds_i64 w1
  · exact bounds_i64 w2
  · exact bounds_i64 w3
  · exact bounds_i64 w4
  · exact bounds_i64 w5
end
theorem gT : Tryz.prog.globalNamed "internal/strconv.uint64pow10" = some 3 := by kernel_rfl
theorem gTType : (Tryz.prog.globals[3]?).map (·.type) = some 180 := by kernel_rfl
theorem star : "*" ++ "errors.errorString" = "*errors.errorString" := by decide
theorem row145 (u : TypeId) (h : Tryz.prog.typeName? 3 u = some "*errors.errorString") : u = 188 :=
  typeName_ptr_named (nm := "errors.errorString") (by rw [star]; kernel_rfl) (by kernel_rfl) (by decide) u (by rw [star]; exact h)
def errRangeL : String × DataW Unit := ("strconv.ErrRange", .iface "*errors.errorString" (.ptr (.agg [.lit (.string [118, 97, 108, 117, 101, 32, 111, 117, 116, 32, 111, 102, 32, 114, 97, 110, 103, 101])])))
def errSyntaxL : String × DataW Unit := ("strconv.ErrSyntax", .iface "*errors.errorString" (.ptr (.agg [.lit (.string [105, 110, 118, 97, 108, 105, 100, 32, 115, 121, 110, 116, 97, 120])])))
theorem len_at (w : World) (h : w.ShapedOpen Tryz.prog) : ∃ m, w.cell? ⟨0, 0, none⟩ = some (.int .i64 m) := by
  obtain ⟨m, hm⟩ := Go.Proofs.cell_of_shapedOpen_int (g := 0) (zero := #[.int .i64 0]) (t := 3) h (of_decide_eq_true (by kernel_rfl)) (by kernel_rfl) rfl (by kernel_rfl) (by kernel_rfl) Tryz.underlying3
  exact ⟨m, hm⟩
theorem laid_env {W : World} {a b : String × DataW Unit} (h : laidMet Tryz.prog [a, b, ("internal/strconv.uint64pow10", Lib.tabData .u64 Lib.pow10Tab), errRangeL, errSyntaxL] W) (hS : W.ShapedOpen Tryz.prog) : Env W ∧ 4 ≤ W.heap.size := by
  have h1 := h.tail.tail
  obtain ⟨a0, s0, hv0, _, _, _⟩ := laid_sentinel (g := 2) h1.tail (by kernel_rfl) (by kernel_rfl) Tryz.underlying77 row145 Tryz.underlying188 Tryz.underlying190 rfl rfl Tryz.underlying9 (by kernel_rfl) (by kernel_rfl)
  obtain ⟨a1, s1, hv1, _, _, _⟩ := laid_sentinel (g := 1) h1.tail.tail (by kernel_rfl) (by kernel_rfl) Tryz.underlying77 row145 Tryz.underlying188 Tryz.underlying190 rfl rfl Tryz.underlying9 (by kernel_rfl) (by kernel_rfl)
  have c3 := World.var?_cell (g := 2) (by kernel_rfl) hv0 0
  have c2 := World.var?_cell (g := 1) (by kernel_rfl) hv1 0
  have c3 : W.cell? ⟨2, 0, none⟩ = some (.iface 188 (.pointer (some a0))) := by simpa using c3
  have c2 : W.cell? ⟨1, 0, none⟩ = some (.iface 188 (.pointer (some a1))) := by simpa using c2
  have ht := Lib.tabIs_of_head gT gTType Tryz.underlying180 Tryz.underlying161 (by kernel_rfl) (by kernel_rfl) h1
  refine ⟨⟨ht, len_at W hS, ⟨_, _, c2⟩, ⟨_, _, c3⟩⟩, ?_⟩
  have hg : Tryz.prog.globalNamed "internal/strconv.uint64pow10" = some 3 := by kernel_rfl
  unfold Lib.TabIs World.var? at ht
  rw [hg] at ht
  simp only [Option.bind_some] at ht
  rcases Nat.lt_or_ge 3 W.heap.size with q | q
  · exact q
  · rw [Array.getElem?_eq_none q] at ht; simp at ht
/-! ## The walk of ScriptLines, joined -/
end Go.Proofs.YteblhklclcjonaaGreatDoor
