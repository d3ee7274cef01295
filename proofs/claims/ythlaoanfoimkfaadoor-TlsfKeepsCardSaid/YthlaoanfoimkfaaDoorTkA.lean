/- Tlsf: Copy; the map that Check keeps. No condition but what each theorem says. -/
import Derived.Test.YthlaoanfoimkfaaDoorTiB
import Derived.Test.YthlaoanfoimkfaaDoorMapR
import Derived.Maps.RangeWalk
import Derived.BigQuiet
import Derived.Sort.QuietIn
namespace Go.Proofs.YthlaoanfoimkfaaDoor
open Go.RowKit
set_option linter.unusedVariables false
set_option linter.all false
set_option maxRecDepth 100000
section
variable {w w' : World} {h g gb cap mb N bx : Nat} {m : Nat → Nat} {B : List Bk} {L : Nat → List Nat} {X Y Z : World}
set_option maxHeartbeats 4000000 in
theorem copy_heap (H : Hp w h g gb cap mb N B L m) : Calls Tryd.prog 35 #[.pointer (some ⟨h, 0, none⟩)] w fun e w' => ∃ h' g' gb' cap' mb', e = .returned (.pointer (some ⟨h', 0, none⟩)) ∧ Only [] w w' ∧
      Hp w' h' g' gb' cap' mb' N B L m ∧ w.heap.size ≤ h' ∧ w.heap.size ≤ g' ∧ w.heap.size ≤ gb' ∧ w.heap.size ≤ mb' := by
  have k0 : w.cell? ⟨h, 0, none⟩ = some (.pointer (some ⟨g, 0, none⟩)) := by simpa using H.me.hdr.cell 0
  have k1 : w.cell? ⟨h, 1, none⟩ = some (.map (some mb)) := by simpa using H.me.hdr.cell 1
  have HT := Lib.hid (there_any H.me)
  have hlt := H.lt
  have hinv := Lib.hid H.inv
  have hall := Lib.hid H.all
  have hne := H.ne
  obtain ⟨U, hP, hU⟩ := H.pc
  have HU := Lib.hid hU
  have hub : ∀ x ∈ U, x < 100000 := fun x hx => by
    obtain ⟨b, hb, _, e⟩ := mem_used.1 (hU.mem_iff.1 hx)
    have := Tile.mem H.inv.tile b hb
    have := H.inv.size
    omega
  have HUB := Lib.hid hub
  obtain ⟨bs, c, hA, e1, e2⟩ := H.me.mem
  have CP := Lib.hid (copy_any g gb cap bs c w hA)
  have E1 := Lib.hid e1
  have E2 := Lib.hid e2
  have hmm : ∀ W : World, (Instr.makeMap 74 none).run Tryd.prog W = .ok (.map (some W.heap.size)) (W.alloc (.map #[] 0)) := fun W => by
    simp [Instr.makeMap, run_underlying Tryd.underlying74, go_sem]
  have HP := Lib.hid hP
  have hnd := Lib.hid hP.2
  clear H hA e1 e2 hP hU hub
  go_enter Tryd.func35, Tryd.ntmps35
  go_wp2_with (first
    | (go_at_call 56; (with_reducible refine HT.out.mono ?_); rintro e w1 ⟨rfl, rfl⟩)
    | (go_at_call 71; (with_reducible refine CP.out.mono ?_); rintro e w1 ⟨⟨g', gb', cap', rfl, A1, hg1, hgb1⟩, o1⟩; have k1 := (((Only.refl [] w1).alloc (.map #[] 0)).alloc (.cells #[.pointer (some ⟨g', 0, none⟩), .map (some w1.heap.size)] 76)).keep0 (o1.keep0 k1))
    | (rw [hmm]; simp only [Result.andThen])
    | (at_range; refine wpList_range_rg _ rfl _ 74 rfl 3 4 Tryd.underlying74 mb U.length (pcs U) rfl (HP.out.1.only ((o1.alloc (.map #[] 0)).alloc (.cells #[.pointer (some ⟨g', 0, none⟩), .map (some w1.heap.size)] 76)) (by simp)) ?_; intro w0 hrg0 hg0 hs0; simp only [World.size_alloc] at hrg0 hs0 ⊢))
  obtain ⟨q, hq⟩ : ∃ q, w1.heap.size = q := ⟨_, rfl⟩
  have B0 := (Blk.new (w1.alloc (.map #[] 0)) 76 #[.pointer (some ⟨g', 0, none⟩), .map (some w1.heap.size)]).only hg0 (by simp)
  have P0 := ((Pc.nil (Mp.made Tryd.prog 3 w1)).only (((Only.refl [] _).alloc (.cells #[.pointer (some ⟨g', 0, none⟩), .map (some w1.heap.size)] 76))) (by simp)).only hg0 (by simp)
  have oo0 : Only [] w1 w0 := (((Only.refl [] w1).alloc (.map #[] 0)).alloc (.cells #[.pointer (some ⟨g', 0, none⟩), .map (some w1.heap.size)] 76)).trans0 hg0
  have A0 := A1.only oo0 (by simp) (by simp)
  have O0 := Lib.hid (o1.trans0 oo0)
  have hal := A1.lt
  have hah := A1.hdr.lt
  have hs1 := o1.size
  simp only [World.size_alloc] at B0
  rw [hq] at B0 P0 hrg0 hs0 hal hah hs1
  simp only [hq]
  have RG0 := Lib.hid hrg0
  have B0 := Lib.hid B0
  have P0 := Lib.hid P0
  have A0 := Lib.hid A0
  clear hrg0 hg0 oo0 A1 o1 hmm k0 k1
  go_frame
  go_loopw [4] (fun vk wr => ∃ (left : Value → Prop) (n : Nat) (U2 : List Nat), Hid (Rg Tryd.prog 3 wr mb (q + 1 + 1) (pcs U) U.length left n) ∧ Hid (Only [] w wr) ∧ Hid (Blk wr (q + 1) 76 #[.pointer (some ⟨g', 0, none⟩), .map (some q)]) ∧ Hid (Pc wr q U2) ∧ Hid (Ar wr g' gb' cap' bs c) ∧ Hid (∀ x ∈ U, left (.int .i64 (x : Int)) ∨ x ∈ U2) ∧ Hid (∀ x ∈ U2, x ∈ U)) (fun _ wr => leftM wr mb (q + 1 + 1))
  case atStart => exact ⟨_, _, [], RG0, O0, B0, P0, A0, Lib.hid fun x hx => .inl (by rw [pcs_in hx]; rfl), Lib.hid fun x hx => by simp at hx⟩
  case round =>
    obtain ⟨left, n, U2, hR, hO, hB, hP2, hA2, hL, hS⟩ := hrel
    go_wp2_with (first
      | (at_next; refine wpList_next_rg _ rfl _ rfl 3 (fun x : Nat => Value.int .i64 (x : Int)) (fun x => Value.bool true) mb (q + 1 + 1) U.length (pcs U) left n (by
          intro key v hv
          obtain ⟨x, hx, e1, e2⟩ := pcs_key hv
          exact ⟨x, e1, e2⟩) rfl hR.out ?_ ?_)
      | fail)
    · intro hn0 hl0
      have HL0 := Lib.hid hl0
      clear hl0
      go_wp2_with fail
      go_ret
      have hperm : U2.Perm U := by
        refine (List.perm_ext_iff_of_nodup hP2.out.2 hnd.out).2 fun x => ⟨hS.out x, fun hx => ?_⟩
        rcases hL.out x hx with k | k
        · exact absurd k (HL0.out _)
        · exact k
      have hmy : Me wr (q + 1) g' gb' cap' q N m := ⟨hB.out, bs, c, hA2.out, E1.out, E2.out⟩
      exact ⟨q + 1, g', gb', cap', q, by simp, hO.out, ⟨hmy, hinv.out, hall.out, U2, hP2.out, hperm.trans HU.out⟩, by omega, hg1, hgb1, by omega⟩
    · intro x w2 n2 hlk hf l hl hrg hlt2 ho hsz hen
      have hx : x ∈ U := by
        by_cases hx : x ∈ U
        · exact hx
        · rw [pcs_out hx] at hf; cases hf
      have hxb := HUB.out x hx
      have OW := hO.out.trans ho (fun y hy => by simp at hy; subst hy; exact .inr (by omega))
      have BB := hB.out.only ho (by first | (simp; done) | (simp; omega))
      have k1 : w2.cell? ⟨q + 1, 1, none⟩ = some (.map (some q)) := by simpa using BB.cell 1
      obtain ⟨w3, e3, P3, o3⟩ := (hP2.out.only ho (by simp; omega)).put x (by omega)
      have HRG := Lib.hid (hrg.only o3 (by simp; omega) (by simp; omega))
      have HOW := Lib.hid (OW.trans o3 (fun y hy => by simp at hy; subst hy; exact .inr (by omega)))
      have HBB := Lib.hid (BB.only o3 (by first | (simp; done) | (simp; omega)))
      have HP3 := Lib.hid P3
      have HA3 := Lib.hid ((hA2.out.only ho (by simp; omega) (by simp; omega)).only o3 (by simp; omega) (by simp; omega))
      have HLT := Lib.hid hlt2
      have HL3 : Hid (∀ y ∈ U, (left (.int .i64 (y : Int)) ∧ Value.int .i64 (y : Int) ≠ Value.int .i64 (x : Int)) ∨ y ∈ addU U2 x) := Lib.hid fun y hy => by
        by_cases e : y = x
        · exact .inr (mem_addU.2 (.inl e))
        · rcases hL.out y hy with k | k
          · exact .inl ⟨k, fun e2 => e (by injection e2 with _ e2; omega)⟩
          · exact .inr (mem_addU.2 (.inr k))
      have HS3 : Hid (∀ y ∈ addU U2 x, y ∈ U) := Lib.hid fun y hy => by
        rcases mem_addU.1 hy with e | e
        · rw [e]; exact hx
        · exact hS.out y e
      clear hlk hf hl hrg hlt2 ho P3 o3 OW BB
      go_wp2_with (first
        | (rw [e3]; simp only [Result.andThen])
        | fail)
      go_roundw
      case rel => exact ⟨_, n2, _, HRG, HOW, HBB, HP3, HA3, HL3, HS3⟩
      case measure => rw [HRG.out.left_eq, hR.out.left_eq]; exact HLT.out
end
end Go.Proofs.YthlaoanfoimkfaaDoor
namespace Go.Proofs.YthlaoanfoimkfaaDoor
open Go.RowKit
open Go.Maps (Keyed)
set_option linter.unusedVariables false
set_option linter.all false
set_option maxRecDepth 100000
/-- What the map answers: of each place of a list, its class. -/
def fpf (κ : Nat → Nat) (F : List Nat) : Value → Option Value := fun k => match k with
  | .int .i64 (.ofNat x) => if x ∈ F then some (.int .i64 (κ x : Nat)) else none
  | _ => none
section
variable {κ : Nat → Nat} {F : List Nat} {w w' : World} {fb : Nat} {S : List Nat}
theorem fpf_in {x : Nat} (h : x ∈ F) : fpf κ F (.int .i64 (x : Int)) = some (.int .i64 (κ x : Nat)) := if_pos h
theorem fpf_out {x : Nat} (h : x ∉ F) : fpf κ F (.int .i64 (x : Int)) = none := if_neg h
theorem fpf_key {k v : Value} (h : fpf κ F k = some v) : ∃ x ∈ F, k = .int .i64 (x : Int) ∧ v = .int .i64 (κ x : Nat) := by
  unfold fpf at h
  split at h
  · next x =>
    split at h
    · next hx => exact ⟨x, hx, rfl, by cases h; rfl⟩
    · cases h
  · cases h
def Fm (κ : Nat → Nat) (w : World) (fb : Nat) (F : List Nat) : Prop := Mp Tryd.prog 3 w fb (fpf κ F) F.length ∧ F.Nodup
theorem Fm.only (H : Fm κ w fb F) (o : Only S w w') (hb : fb ∉ S) : Fm κ w' fb F := ⟨H.1.only o hb, H.2⟩
theorem Fm.nil (H : Mp Tryd.prog 3 w fb (fun _ => none) 0) : Fm κ w fb [] := ⟨H.congr fun k => by
  cases hk : fpf κ [] k with
  | none => rfl
  | some v => obtain ⟨x, hx, _⟩ := fpf_key hk; simp at hx, List.nodup_nil⟩
theorem fpf_congr {G : List Nat} {k : Value} (h : ∀ y : Nat, k = .int .i64 (y : Int) → (y ∈ G ↔ y ∈ F)) : fpf κ G k = fpf κ F k := by
  cases h1 : fpf κ F k with
  | some v =>
    obtain ⟨y, hy, e, rfl⟩ := fpf_key h1
    rw [e]
    exact fpf_in ((h y e).2 hy)
  | none =>
    cases h2 : fpf κ G k with
    | none => rfl
    | some v =>
      obtain ⟨y, hy, e, rfl⟩ := fpf_key h2
      rw [e, fpf_in ((h y e).1 hy)] at h1
      cases h1
theorem Fm.put (H : Fm κ w fb F) {x : Nat} (hx : x ∉ F) (hb : x < 9223372036854775808) : ∃ w', (Instr.mapUpdate 91 (.map (some fb)) (.int .i64 (x : Int)) (.int .i64 (κ x : Nat))).run Tryd.prog w = .ok () w' ∧ Fm κ w' fb (x :: F) ∧ Only [fb] w w' := by
  obtain ⟨l, hl⟩ := keyI x (by omega)
  obtain ⟨w1, e, M, o⟩ := H.1.put keyed Tryd.underlying91 hl (.int .i64 (κ x : Nat)) (fpf κ (x :: F)) (fpf_in (by simp)) (fun k hk => fpf_congr fun y e => by
    simp only [List.mem_cons]
    exact ⟨fun h => h.elim (fun e2 => absurd (by rw [e, e2]) hk) id, .inr⟩)
  refine ⟨w1, e, ⟨?_, List.nodup_cons.2 ⟨hx, H.2⟩⟩, o⟩
  rw [fpf_out hx] at M
  simpa using M
theorem Fm.del {ty : TypeId} (H : Fm κ w fb F) {x : Nat} (hx : x ∈ F) (hb : x < 9223372036854775808) : ∃ w', (Builtin.delete_ #[91, 3] ty #[.map (some fb), .int .i64 (x : Int)]).run Tryd.prog w = .ok (.tuple #[]) w' ∧ Fm κ w' fb (F.erase x) ∧ Only [fb] w w' := by
  obtain ⟨l, hl⟩ := keyI x (by omega)
  obtain ⟨w1, e, M, o⟩ := H.1.del (ty := ty) keyed Tryd.underlying91 hl (fpf κ (F.erase x)) (fpf_out (by rw [H.2.mem_erase_iff]; simp)) (fun k hk => fpf_congr fun y e => by
    rw [H.2.mem_erase_iff]
    exact ⟨fun h => h.2, fun h => ⟨fun e2 => absurd (by rw [e, e2]) hk, h⟩⟩)
  refine ⟨w1, e, ⟨?_, H.2.erase x⟩, o⟩
  rw [fpf_in hx] at M
  simp only [Option.isSome_some, if_true] at M
  rw [List.length_erase_of_mem hx]
  exact M
theorem Fm.look (H : Fm κ w fb F) {x : Nat} (hx : x ∈ F) (hb : x < 9223372036854775808) : (Instr.lookup 91 (.map (some fb)) (.int .i64 (x : Int)) true).run Tryd.prog w = .ok (.tuple #[.int .i64 (κ x : Nat), .bool true]) w := by
  obtain ⟨l, hl⟩ := keyI x (by omega)
  exact (H.1.look keyed Tryd.underlying91 hl (fpf_in hx)).2
theorem Fm.len (H : Fm κ w fb F) : (Builtin.len_ #[91] 3 #[.map (some fb)]).run Tryd.prog w = .ok (.int .i64 F.length) w := Mp.len H.1 Tryd.underlying91 3
end
end Go.Proofs.YthlaoanfoimkfaaDoor
namespace Go.Proofs.YthlaoanfoimkfaaDoor
open Go.RowKit Go.Shelf Go.BigFrame
set_option linter.unusedVariables false
set_option linter.all false
set_option maxRecDepth 100000
/-! ## A region that draws its order and only reads, within a round -/
section
variable {F : Fence} {n : Nat} {P : Program} {md : Region.Mode} {ops : Array Oper} {C : World → Prop}
def noDefer (o : Oper) : Bool := match o.op with
  | .defer _ => false
  | _ => true
theorem noDefer_spec {o : Oper} (h : noDefer o = true) : ∀ c, o.op ≠ .defer c := by
  intro c hc
  unfold noDefer at h
  rw [hc] at h
  cases h
theorem oper_of_quiet_r {o : Oper} {a : Act} {K : Act → Prop} {K' : Act → World → Prop} {Q' : Exit → Act → World → Prop} {w : World} (hnd : ∀ c, o.op ≠ .defer c) (hw : C w) (h : ∀ a w', C w' → K a → K' a w')
    (ha : o.askedIn F P a C) (hh : o.quietIn F n P a C K) : o.wpIn F n P a w K' Q' := by
  obtain ⟨v, h1, h2⟩ := hh
  have h3 := h1 w hw
  unfold Oper.quietAtIn at h3
  unfold Oper.wpIn
  refine ⟨ha w hw, ?_⟩
  rw [Oper.semAt_eq _ _ _ hnd]
  generalize (execOp a.eval o).run P w = r at *
  cases r with
  | ok x w' =>
    cases x <;> simp only [Oper.quietUponIn] at h3 <;> simp only [Oper.uponIn]
    case value u =>
      obtain ⟨e1, e2⟩ := h3
      rw [e1, e2]
      exact h _ _ hw h2
    case skip =>
      obtain ⟨e1, e2⟩ := h3
      rw [e1, ← e2]
      exact h _ _ hw h2
    case enter f args =>
      obtain ⟨e1, hd, hc⟩ := h3
      rw [e1]
      exact ⟨hd, hc.mono fun e w'' ⟨he, hw''⟩ => by subst he; exact h _ _ hw'' h2⟩
  | halt x w' => simp only [Oper.quietUponIn] at h3
theorem op_of_quiet_r {i : Nat} {a : Act} {K : Act → Prop} {K' : Act → World → Prop} {Q' : Exit → Act → World → Prop} {w : World} (hnd : ∀ o ∈ ops.toList, noDefer o = true) (hC : C w) (h : ∀ a w', C w' → K a → K' a w')
    (hh : qOpIn F n P ops C i K a) : wpOpIn F n P ops Q' i K' a w := by
  unfold qOpIn at hh
  unfold wpOpIn
  split
  · rename_i ho; simp only [ho] at hh; exact h _ _ hC hh
  · rename_i o ho
    simp only [ho] at hh
    obtain ⟨ha, hh⟩ := hh
    have hm : o ∈ ops.toList := by
      have := Array.mem_of_getElem? ho
      simpa using this
    split
    · rename_i hw; simp only [hw, if_true] at hh; exact oper_of_quiet_r (noDefer_spec (hnd o hm)) hC h ha hh
    · rename_i hw; simp only [hw] at hh; exact ⟨ha w hC, h _ _ hC hh⟩
theorem any_of_quiet_r {Q : Act → Prop} {Q' : Exit → Act → World → Prop} (hnd : ∀ o ∈ ops.toList, noDefer o = true) (hQ : ∀ a w, C w → Q a → Q' .normal a w) : ∀ (fuel : Nat) (listed : Array Bool) (a : Act) (w : World), C w →
    wpAnyQIn F n P md ops C Q fuel listed a → wpAnyIn F n P md ops Q' fuel listed a w
  | 0, _, _, _, hw, h => ⟨h.1, hQ _ _ hw h.2⟩
  | fuel + 1, _, _, _, hw, h => ⟨fun h0 => hQ _ _ hw (h.1 h0), fun i hi => op_of_quiet_r hnd hw (fun a' w' hw' => any_of_quiet_r hnd hQ fuel _ a' w' hw') (h.2 i hi)⟩
theorem region_quiet_g {id : Nat} {Q : Exit → Act → World → Prop} {a : Act} {w : World} {l : List Oper} (hnd : l.all noDefer = true) (hm : P.follows .mixedOrders = true) (hB : Region.lexB .any l.toArray = true) (hC : C w.drew)
    (h : wpQuietIn F n P l.toArray C (fun a' => ∀ w', C w' → Q .normal a' w') l a) : (Code.region id l.toArray true).wpIn F n P Q a w := by
  simp only [Region.lexB, Bool.and_eq_true] at hB
  refine wpIn_region_any hm (any_of_quiet_r (C := C) (Q := fun a' => ∀ w', C w' → Q .normal a' w') (by simpa using hnd) (fun _ w' hw' h => h w' hw') _ _ _ _ hC ?_)
  have := wpAnyQIn_lex (F := F) (n := n) (C := C) (md := .any) hB.1 l.toArray.toList 0 (Array.replicate l.toArray.size false) a (by simp) (by simpa using hB.2) (by simpa using h)
  simpa using this
end
/-- The worlds that a reading region may come to. -/
structure Rd (g : Nat) (J : World → Prop) (W0 : { W : World // J W }) where
  val : World
  ok : Only [g] W0.1 val
  me : J val
instance (g : Nat) (J : World → Prop) (W0 : { W : World // J W }) : Nonempty (Rd g J W0) := ⟨⟨W0.1, Only.refl _ _, W0.2⟩⟩
theorem quiet_rd {F : Fence} {n : Nat} {P : Program} {f : FuncId} {args : Array Value} {g : Nat} {J : World → Prop} {W0 : { W : World // J W }} {s : Rd g J W0} {v : Value} (h : CallsIn F n P f args s.val fun e w' => e = .returned v ∧ Only [g] s.val w' ∧ J w') : CallsIn F n P f args s.val fun e w'' => e = .returned v ∧ ∃ s' : Rd g J W0, w'' = s'.val :=
  h.mono fun e w' ⟨he, ho, hj⟩ => ⟨he, ⟨w', s.ok.trans ho (by simp), hj⟩, rfl⟩
/-- A walk of all orders, state by state. -/
theorem any_gate {F : Fence} {n : Nat} {P : Program} {md : Region.Mode} {ops : Array Oper} {Q : Exit → Act → World → Prop} {fuel : Nat} {listed : Array Bool} {a : Act} {w : World}
    (h : ∀ G : Nat → Array Bool → Act → World → Prop, (∀ fu li ac wo, wpAnyIn F n P md ops Q fu li ac wo → G fu li ac wo) → (∀ fu li ac wo, G fu li ac wo → wpAnyIn F n P md ops Q fu li ac wo) → G fuel listed a w) : wpAnyIn F n P md ops Q fuel listed a w :=
  h _ (fun _ _ _ _ h => h) (fun _ _ _ _ h => h)
theorem kf_only {S : List Nat} {n : Nat} {W W' : World} (h : Only S W W') (hS : ∀ k ∈ S, k < n) : KeepsFrom n W W' :=
  ⟨h.size, fun k o hB hk _ => (h.block k (Array.getElem?_eq_some_iff.1 hk).1 (fun hm => by have := hS k hm; omega)).trans hk⟩
/-- The class of the block at a place. -/
def kap (B : List Bk) (a : Nat) : Nat := ((B.find? (fun b => b.at' == a)).map (fun b => cls b.size)).getD 0
theorem kap_at {B : List Bk} {N : Nat} (ht : Tile 112 B N) {b : Bk} (hb : b ∈ B) : kap B b.at' = cls b.size := by
  unfold kap
  cases e : B.find? (fun c => c.at' == b.at') with
  | none =>
    have := List.find?_eq_none.1 e b hb
    simp at this
  | some c =>
    have h1 := List.find?_some e
    simp at h1
    have := ht.inj (List.mem_of_find?_eq_some e) hb h1
    rw [this]; rfl
/-- The places of the free blocks, the last one first; the last one's size; where it ends. -/
def fr (A : List Bk) : List Nat := ((A.filter (fun b => b.k == 1)).map Bk.at').reverse
def avL (A : List Bk) : Nat := (A.getLast?.map Bk.size).getD 0
def evL (A : List Bk) : Nat := (A.getLast?.map (fun b => b.at' + b.size)).getD 112
theorem fr_snoc (A : List Bk) (b : Bk) : fr (A ++ [b]) = if b.k = 1 then b.at' :: fr A else fr A := by
  unfold fr
  by_cases h : b.k = 1 <;> simp [List.filter_append, h]
theorem avL_snoc (A : List Bk) (b : Bk) : avL (A ++ [b]) = b.size := by simp [avL]
theorem evL_snoc (A : List Bk) (b : Bk) : evL (A ++ [b]) = b.at' + b.size := by simp [evL]
theorem mem_fr {A : List Bk} {x : Nat} : x ∈ fr A ↔ ∃ b ∈ A, b.k = 1 ∧ b.at' = x := by
  unfold fr
  simp [and_assoc]
theorem evL_all {B : List Bk} {N : Nat} (ht : Tile 112 B N) (hN : 112 < N) : evL B = N := by
  rcases List.eq_nil_or_concat B with rfl | ⟨A, b, rfl⟩
  · have : 112 = N := ht
    omega
  · have hp := (show A.concat b = A ++ b :: [] by simp) ▸ ht
    have := hp.pos
    have e : b.at' + b.size = N := this.2.2.2.2.2.2.1
    rw [List.concat_eq_append, evL_snoc]
    exact e
/-- What stands ahead of a block. -/
theorem ahead_word {N : Nat} {m : Nat → Nat} {A C : List Bk} {x : Bk} {L : Nat → List Nat} (h : Inv N m (A ++ x :: C) L) (hall : ∀ b ∈ A ++ x :: C, b.k ≠ 2) : m (x.at' + 4) = avL A := by
  have hs := h.size
  rcases List.eq_nil_or_concat A with rfl | ⟨A', b, rfl⟩
  · have e : x.at' = 112 := h.tile.1
    rw [e]
    exact h.first
  · rw [List.concat_eq_append] at h hall ⊢
    rw [avL_snoc]
    have hb : b ∈ A' ++ [b] ++ x :: C := by simp
    have ht := h.tile
    rw [List.append_assoc] at ht
    have hp := ht.pos
    have e : x.at' = b.at' + b.size := hp.2.2.2.2.2.2.1.1
    have hx := Tile.mem h.tile x (by simp)
    rw [e]
    exact h.behind b hb (hall b hb) (by omega)
theorem notin_fr {N : Nat} {A C : List Bk} {x : Bk} (ht : Tile 112 (A ++ x :: C) N) : x.at' ∉ fr A := fun hm => by
  obtain ⟨b, hb, _, e⟩ := mem_fr.1 hm
  have := ht.pos
  have h1 := this.2.2.2.2.2.2.2.1 b hb
  have h2 := Tile.mem ht b (by simp [hb])
  omega
end Go.Proofs.YthlaoanfoimkfaaDoor
