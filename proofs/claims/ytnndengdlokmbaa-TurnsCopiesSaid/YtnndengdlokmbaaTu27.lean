/- Turns: the walk of the law's does. Condition: both turns lie. -/
import Derived.Test.YtnndengdlokmbaaTu26
import Derived.Deep.RegionHeld3
namespace Go.Proofs.Ytnndengdlokmbaa
open Go.RowKit
set_option linter.unusedVariables false
set_option linter.all false
set_option maxRecDepth 20000

/-- What does leaves. -/
def DoesE (w : World) (x g d : Nat) (Q : Int) (s : SS) (B : Int) (e : Ending) (w' : World) : Prop := e = .returned (.bool true) ∧ BS w' x g Q s B ∧ DT w' d Q s ∧ Only [x, g, d] w w'
theorem BS.blks {W : World} {x g : Nat} {Q : Int} {s : SS} {B : Int} (h : BS W x g Q s B) : (∃ cs, Blk W x 60 cs) ∧ ∃ cs, Blk W g 78 cs := by
  obtain ⟨st, _, _, ⟨cs, hb, _⟩, ⟨s', prio, bits, ⟨cs', hb', _⟩, _⟩⟩ := h
  exact ⟨⟨cs, hb⟩, ⟨cs', hb'⟩⟩
theorem BS.noRow {W : World} {x g : Nat} {Q : Int} {s : SS} {B : Int} (h : BS W x g Q s B) : NoRow W [x, g] := by
  obtain ⟨⟨cs, h1⟩, ⟨cs', h2⟩⟩ := h.blks
  intro k hk _
  simp at hk
  rcases hk with rfl | rfl
  · exact ⟨_, _, h1, by decide⟩
  · exact ⟨_, _, h2, by decide⟩
theorem BS.ned {W : World} {x g d : Nat} {Q : Int} {s s' : SS} {B : Int} (h : BS W x g Q s B) (hd : DT W d Q s') : d ∉ [x, g] := by
  obtain ⟨⟨cs, h1⟩, ⟨cs', h2⟩⟩ := h.blks
  obtain ⟨c3, _, _, h3, _⟩ := hd
  have n1 := Blk.ne_ h3 h1 (by decide)
  have n2 := Blk.ne_ h3 h2 (by decide)
  simp [n1, n2]
theorem DT.lt {W : World} {d : Nat} {Q : Int} {s : SS} (h : DT W d Q s) : d < W.heap.size := DR.lt h
theorem DT.only0 {W W' : World} {d : Nat} {Q : Int} {s : SS} (h : DT W d Q s) (o : Only [] W W') : DT W' d Q s := DR.only0 h o
theorem DT.only {W W' : World} {d : Nat} {Q : Int} {s : SS} {S : List Nat} (h : DT W d Q s) (o : Only S W W') (hS : NoRow W S) (hd : d ∉ S) : DT W' d Q s := DR.only h o hS hd
section
variable (x g d : Nat) (Q : Int) (s : SS) (B : Int) (hB : B < 700000) (t p : Int) (rb : Bool) (w : World) (h : BS w x g Q s B) (hd : DT w d Q s)
include hB h hd
set_option maxHeartbeats 4000000 in
theorem does_1 : Calls Try.prog 21 #[.pointer (some ⟨x, 0, none⟩), .pointer (some ⟨d, 0, none⟩), .agg #[.int .i64 1, .int .i64 t, .int .i64 p, .bool rb]] w (DoesE w x g d Q (stepS Q s 1 t p rb) (B + 9)) := by
  have bX := Blk.new w 39 #[.int .i64 1, .int .i64 t, .int .i64 p, .bool rb]
  have oX : Only [] w (w.alloc (.cells #[.int .i64 1, .int .i64 t, .int .i64 p, .bool rb] 39)) := (Only.refl [] w).alloc _
  obtain ⟨W, hW⟩ : ∃ W, w.alloc (.cells #[.int .i64 1, .int .i64 t, .int .i64 p, .bool rb] 39) = W := ⟨_, rfl⟩
  obtain ⟨X, hX⟩ : ∃ X, w.heap.size = X := ⟨_, rfl⟩
  have hx := h.facts.2.2.1
  have hg := h.facts.2.2.2
  have hdl := hd.lt
  rw [hX] at bX hx hg hdl
  rw [hW] at bX oX
  have k0 : W.cell? ⟨X, 0, none⟩ = some (.int .i64 1) := (bX.cell 0).trans rfl
  have k1 : W.cell? ⟨X, 1, none⟩ = some (.int .i64 t) := (bX.cell 1).trans rfl
  have k2 : W.cell? ⟨X, 2, none⟩ = some (.int .i64 p) := (bX.cell 2).trans rfl
  have k3 : W.cell? ⟨X, 3, none⟩ = some (.bool rb) := (bX.cell 3).trans rfl
  have HK1 := hide k1
  have HK2 := hide k2
  have HK3 := hide k3
  have HN1 := hide (show X ∉ [x, g] by simp; omega)
  have HN2 := hide (show X ∉ [d] by simp; omega)
  have OX := hide oX
  have RX := hide (h.only oX (by simp) (by simp))
  have DX := hide (hd.only0 oX)
  have ND := hide (RX.out.ned DX.out)
  have NR := hide RX.out.noRow
  have OK := hide h.ok
  have hs : stepS Q s 1 t p rb = sAdd Q s t p rb := by unfold stepS; simp
  rw [hs]
  obtain ⟨c, hc⟩ : ∃ c, addC s t p = c := ⟨_, rfl⟩
  obtain ⟨s', hs'⟩ : ∃ s', sAdd Q s t p rb = s' := ⟨_, rfl⟩
  have A1 := hide (addB x g Q s _ B (B + 9) hB rfl t p rb c hc rfl W.drew (RX.out.only (Only.refl [] W).drew (by simp) (by simp)))
  have B2 := hide (fun V (o : Only [x, g] W.drew V) (hk : QOk s'.q) => (show Calls Try.prog 41 #[.pointer (some ⟨d, 0, none⟩), .int .i64 t, .int .i64 p, .bool rb] V (DOp V d Q s' c) from by rw [← hs', ← hc]; exact dadd d Q s V ((DX.out.only0 (Only.refl [] W).drew).only o NR.out ND.out) t p rb OK.out (hs' ▸ hk)))
  rw [hs'] at A1 ⊢
  have HE1 := hide (show x ∉ [d] from fun hm => ND.out (by simp at hm; simp [hm]))
  have HE2 := hide (show g ∉ [d] from fun hm => ND.out (by simp at hm; simp [hm]))
  clear hs hs' hc h hd bX oX hx hg hdl
  go_enter Try.func21, Try.ntmps21
  go_wp2_with fail
  go_region_held3 (fun V => V.cell? ⟨X, 1, none⟩ = some (.int .i64 t) ∧ V.cell? ⟨X, 2, none⟩ = some (.int .i64 p) ∧ V.cell? ⟨X, 3, none⟩ = some (.bool rb)) (first | go_keep | exact ⟨j1, j2, j3⟩ | exact ⟨m1, m2, m3⟩ | exact ⟨k1, k2, k3⟩) (first
    | (go_at_call 41; (with_reducible refine (B2.out _ o2 R2.ok).mono ?_); rintro e w3 ⟨rfl, D3, o3⟩; have m1 := o3.keep (p := ⟨X, 1, none⟩) j1 HN2.out; have m2 := o3.keep (p := ⟨X, 2, none⟩) j2 HN2.out; have m3 := o3.keep (p := ⟨X, 3, none⟩) j3 HN2.out)
    | (go_at_call 11; (with_reducible refine A1.out.mono ?_); rintro e w2 ⟨rfl, R2, o2⟩; have j1 := o2.keep (p := ⟨X, 1, none⟩) HK1.out HN1.out; have j2 := o2.keep (p := ⟨X, 2, none⟩) HK2.out HN1.out; have j3 := o2.keep (p := ⟨X, 3, none⟩) HK3.out HN1.out))
  go_wp2_with fail
  go_ret
  exact ⟨rfl, R2.only o3 HE1.out HE2.out, D3, ((OX.out.mono (by simp)).trans (Only.trans (((Only.refl [] W).drew.mono (by simp))) o2 (fun k hk => .inl hk)) (fun k hk => .inl (by simp at hk; rcases hk with rfl | rfl <;> simp))).trans o3 (fun k hk => .inl (by simp at hk; simp [hk]))⟩
set_option maxHeartbeats 4000000 in
theorem does_2 : Calls Try.prog 21 #[.pointer (some ⟨x, 0, none⟩), .pointer (some ⟨d, 0, none⟩), .agg #[.int .i64 2, .int .i64 t, .int .i64 p, .bool rb]] w (DoesE w x g d Q (stepS Q s 2 t p rb) (B + 9)) := by
  have bX := Blk.new w 39 #[.int .i64 2, .int .i64 t, .int .i64 p, .bool rb]
  have oX : Only [] w (w.alloc (.cells #[.int .i64 2, .int .i64 t, .int .i64 p, .bool rb] 39)) := (Only.refl [] w).alloc _
  obtain ⟨W, hW⟩ : ∃ W, w.alloc (.cells #[.int .i64 2, .int .i64 t, .int .i64 p, .bool rb] 39) = W := ⟨_, rfl⟩
  obtain ⟨X, hX⟩ : ∃ X, w.heap.size = X := ⟨_, rfl⟩
  have hx := h.facts.2.2.1
  have hg := h.facts.2.2.2
  have hdl := hd.lt
  rw [hX] at bX hx hg hdl
  rw [hW] at bX oX
  have k0 : W.cell? ⟨X, 0, none⟩ = some (.int .i64 2) := (bX.cell 0).trans rfl
  have k1 : W.cell? ⟨X, 1, none⟩ = some (.int .i64 t) := (bX.cell 1).trans rfl
  have k2 : W.cell? ⟨X, 2, none⟩ = some (.int .i64 p) := (bX.cell 2).trans rfl
  have k3 : W.cell? ⟨X, 3, none⟩ = some (.bool rb) := (bX.cell 3).trans rfl
  have HK1 := hide k1
  have HK2 := hide k2
  have HK3 := hide k3
  have HN1 := hide (show X ∉ [x, g] by simp; omega)
  have HN2 := hide (show X ∉ [d] by simp; omega)
  have OX := hide oX
  have RX := hide (h.only oX (by simp) (by simp))
  have DX := hide (hd.only0 oX)
  have ND := hide (RX.out.ned DX.out)
  have NR := hide RX.out.noRow
  have OK := hide h.ok
  have hs : stepS Q s 2 t p rb = sLeave s t := by unfold stepS; simp
  rw [hs]
  obtain ⟨c, hc⟩ : ∃ c, inC s t 1 = c := ⟨_, rfl⟩
  obtain ⟨s', hs'⟩ : ∃ s', sLeave s t = s' := ⟨_, rfl⟩
  have A1 := hide (leaveB x g Q s _ B (B + 9) hB rfl t c hc rfl W.drew (RX.out.only (Only.refl [] W).drew (by simp) (by simp)))
  have B2 := hide (fun V (o : Only [x, g] W.drew V) (hk : QOk s'.q) => (show Calls Try.prog 42 #[.pointer (some ⟨d, 0, none⟩), .int .i64 t] V (DOp V d Q s' c) from by rw [← hs', ← hc]; exact dleave d Q s V ((DX.out.only0 (Only.refl [] W).drew).only o NR.out ND.out) t OK.out (hs' ▸ hk)))
  rw [hs'] at A1 ⊢
  have HE1 := hide (show x ∉ [d] from fun hm => ND.out (by simp at hm; simp [hm]))
  have HE2 := hide (show g ∉ [d] from fun hm => ND.out (by simp at hm; simp [hm]))
  clear hs hs' hc h hd bX oX hx hg hdl
  go_enter Try.func21, Try.ntmps21
  go_wp2_with fail
  go_region_held3 (fun V => V.cell? ⟨X, 1, none⟩ = some (.int .i64 t)) (first | go_keep | exact j1 | exact m1 | exact k1) (first
    | (go_at_call 42; (with_reducible refine (B2.out _ o2 R2.ok).mono ?_); rintro e w3 ⟨rfl, D3, o3⟩; have m1 := o3.keep (p := ⟨X, 1, none⟩) j1 HN2.out)
    | (go_at_call 27; (with_reducible refine A1.out.mono ?_); rintro e w2 ⟨rfl, R2, o2⟩; have j1 := o2.keep (p := ⟨X, 1, none⟩) HK1.out HN1.out))
  go_wp2_with fail
  go_ret
  exact ⟨rfl, R2.only o3 HE1.out HE2.out, D3, ((OX.out.mono (by simp)).trans (Only.trans (((Only.refl [] W).drew.mono (by simp))) o2 (fun k hk => .inl hk)) (fun k hk => .inl (by simp at hk; rcases hk with rfl | rfl <;> simp))).trans o3 (fun k hk => .inl (by simp at hk; simp [hk]))⟩
set_option maxHeartbeats 4000000 in
theorem does_3 : Calls Try.prog 21 #[.pointer (some ⟨x, 0, none⟩), .pointer (some ⟨d, 0, none⟩), .agg #[.int .i64 3, .int .i64 t, .int .i64 p, .bool rb]] w (DoesE w x g d Q (stepS Q s 3 t p rb) (B + 9)) := by
  have bX := Blk.new w 39 #[.int .i64 3, .int .i64 t, .int .i64 p, .bool rb]
  have oX : Only [] w (w.alloc (.cells #[.int .i64 3, .int .i64 t, .int .i64 p, .bool rb] 39)) := (Only.refl [] w).alloc _
  obtain ⟨W, hW⟩ : ∃ W, w.alloc (.cells #[.int .i64 3, .int .i64 t, .int .i64 p, .bool rb] 39) = W := ⟨_, rfl⟩
  obtain ⟨X, hX⟩ : ∃ X, w.heap.size = X := ⟨_, rfl⟩
  have hx := h.facts.2.2.1
  have hg := h.facts.2.2.2
  have hdl := hd.lt
  rw [hX] at bX hx hg hdl
  rw [hW] at bX oX
  have k0 : W.cell? ⟨X, 0, none⟩ = some (.int .i64 3) := (bX.cell 0).trans rfl
  have k1 : W.cell? ⟨X, 1, none⟩ = some (.int .i64 t) := (bX.cell 1).trans rfl
  have k2 : W.cell? ⟨X, 2, none⟩ = some (.int .i64 p) := (bX.cell 2).trans rfl
  have k3 : W.cell? ⟨X, 3, none⟩ = some (.bool rb) := (bX.cell 3).trans rfl
  have HK1 := hide k1
  have HK2 := hide k2
  have HK3 := hide k3
  have HN1 := hide (show X ∉ [x, g] by simp; omega)
  have HN2 := hide (show X ∉ [d] by simp; omega)
  have OX := hide oX
  have RX := hide (h.only oX (by simp) (by simp))
  have DX := hide (hd.only0 oX)
  have ND := hide (RX.out.ned DX.out)
  have NR := hide RX.out.noRow
  have OK := hide h.ok
  have hs : stepS Q s 3 t p rb = sYield s t := by unfold stepS; simp
  rw [hs]
  obtain ⟨c, hc⟩ : ∃ c, inC s t 1 = c := ⟨_, rfl⟩
  obtain ⟨s', hs'⟩ : ∃ s', sYield s t = s' := ⟨_, rfl⟩
  have A1 := hide (yieldB x g Q s _ B (B + 9) hB rfl t c hc rfl W.drew (RX.out.only (Only.refl [] W).drew (by simp) (by simp)))
  have B2 := hide (fun V (o : Only [x, g] W.drew V) (hk : QOk s'.q) => (show Calls Try.prog 43 #[.pointer (some ⟨d, 0, none⟩), .int .i64 t] V (DOp V d Q s' c) from by rw [← hs', ← hc]; exact dyield d Q s V ((DX.out.only0 (Only.refl [] W).drew).only o NR.out ND.out) t OK.out (hs' ▸ hk)))
  rw [hs'] at A1 ⊢
  have HE1 := hide (show x ∉ [d] from fun hm => ND.out (by simp at hm; simp [hm]))
  have HE2 := hide (show g ∉ [d] from fun hm => ND.out (by simp at hm; simp [hm]))
  clear hs hs' hc h hd bX oX hx hg hdl
  go_enter Try.func21, Try.ntmps21
  go_wp2_with fail
  go_region_held3 (fun V => V.cell? ⟨X, 1, none⟩ = some (.int .i64 t)) (first | go_keep | exact j1 | exact m1 | exact k1) (first
    | (go_at_call 43; (with_reducible refine (B2.out _ o2 R2.ok).mono ?_); rintro e w3 ⟨rfl, D3, o3⟩; have m1 := o3.keep (p := ⟨X, 1, none⟩) j1 HN2.out)
    | (go_at_call 28; (with_reducible refine A1.out.mono ?_); rintro e w2 ⟨rfl, R2, o2⟩; have j1 := o2.keep (p := ⟨X, 1, none⟩) HK1.out HN1.out))
  go_wp2_with fail
  go_ret
  exact ⟨rfl, R2.only o3 HE1.out HE2.out, D3, ((OX.out.mono (by simp)).trans (Only.trans (((Only.refl [] W).drew.mono (by simp))) o2 (fun k hk => .inl hk)) (fun k hk => .inl (by simp at hk; rcases hk with rfl | rfl <;> simp))).trans o3 (fun k hk => .inl (by simp at hk; simp [hk]))⟩
set_option maxHeartbeats 4000000 in
theorem does_5 : Calls Try.prog 21 #[.pointer (some ⟨x, 0, none⟩), .pointer (some ⟨d, 0, none⟩), .agg #[.int .i64 5, .int .i64 t, .int .i64 p, .bool rb]] w (DoesE w x g d Q (stepS Q s 5 t p rb) (B + 9)) := by
  have bX := Blk.new w 39 #[.int .i64 5, .int .i64 t, .int .i64 p, .bool rb]
  have oX : Only [] w (w.alloc (.cells #[.int .i64 5, .int .i64 t, .int .i64 p, .bool rb] 39)) := (Only.refl [] w).alloc _
  obtain ⟨W, hW⟩ : ∃ W, w.alloc (.cells #[.int .i64 5, .int .i64 t, .int .i64 p, .bool rb] 39) = W := ⟨_, rfl⟩
  obtain ⟨X, hX⟩ : ∃ X, w.heap.size = X := ⟨_, rfl⟩
  have hx := h.facts.2.2.1
  have hg := h.facts.2.2.2
  have hdl := hd.lt
  rw [hX] at bX hx hg hdl
  rw [hW] at bX oX
  have k0 : W.cell? ⟨X, 0, none⟩ = some (.int .i64 5) := (bX.cell 0).trans rfl
  have k1 : W.cell? ⟨X, 1, none⟩ = some (.int .i64 t) := (bX.cell 1).trans rfl
  have k2 : W.cell? ⟨X, 2, none⟩ = some (.int .i64 p) := (bX.cell 2).trans rfl
  have k3 : W.cell? ⟨X, 3, none⟩ = some (.bool rb) := (bX.cell 3).trans rfl
  have HK1 := hide k1
  have HK2 := hide k2
  have HK3 := hide k3
  have HN1 := hide (show X ∉ [x, g] by simp; omega)
  have HN2 := hide (show X ∉ [d] by simp; omega)
  have OX := hide oX
  have RX := hide (h.only oX (by simp) (by simp))
  have DX := hide (hd.only0 oX)
  have ND := hide (RX.out.ned DX.out)
  have NR := hide RX.out.noRow
  have OK := hide h.ok
  have hs : stepS Q s 5 t p rb = sPut Q s t p rb := by unfold stepS; simp
  rw [hs]
  obtain ⟨c, hc⟩ : ∃ c, inC s t p = c := ⟨_, rfl⟩
  obtain ⟨s', hs'⟩ : ∃ s', sPut Q s t p rb = s' := ⟨_, rfl⟩
  have A1 := hide (putB x g Q s _ B (B + 9) hB rfl t p rb c hc rfl W.drew (RX.out.only (Only.refl [] W).drew (by simp) (by simp)))
  have B2 := hide (fun V (o : Only [x, g] W.drew V) (hk : QOk s'.q) => (show Calls Try.prog 45 #[.pointer (some ⟨d, 0, none⟩), .int .i64 t, .int .i64 p, .bool rb] V (DOp V d Q s' c) from by rw [← hs', ← hc]; exact dput d Q s V ((DX.out.only0 (Only.refl [] W).drew).only o NR.out ND.out) t p rb OK.out (hs' ▸ hk)))
  rw [hs'] at A1 ⊢
  have HE1 := hide (show x ∉ [d] from fun hm => ND.out (by simp at hm; simp [hm]))
  have HE2 := hide (show g ∉ [d] from fun hm => ND.out (by simp at hm; simp [hm]))
  clear hs hs' hc h hd bX oX hx hg hdl
  go_enter Try.func21, Try.ntmps21
  go_wp2_with fail
  go_region_held3 (fun V => V.cell? ⟨X, 1, none⟩ = some (.int .i64 t) ∧ V.cell? ⟨X, 2, none⟩ = some (.int .i64 p) ∧ V.cell? ⟨X, 3, none⟩ = some (.bool rb)) (first | go_keep | exact ⟨j1, j2, j3⟩ | exact ⟨m1, m2, m3⟩ | exact ⟨k1, k2, k3⟩) (first
    | (go_at_call 45; (with_reducible refine (B2.out _ o2 R2.ok).mono ?_); rintro e w3 ⟨rfl, D3, o3⟩; have m1 := o3.keep (p := ⟨X, 1, none⟩) j1 HN2.out; have m2 := o3.keep (p := ⟨X, 2, none⟩) j2 HN2.out; have m3 := o3.keep (p := ⟨X, 3, none⟩) j3 HN2.out)
    | (go_at_call 29; (with_reducible refine A1.out.mono ?_); rintro e w2 ⟨rfl, R2, o2⟩; have j1 := o2.keep (p := ⟨X, 1, none⟩) HK1.out HN1.out; have j2 := o2.keep (p := ⟨X, 2, none⟩) HK2.out HN1.out; have j3 := o2.keep (p := ⟨X, 3, none⟩) HK3.out HN1.out))
  go_wp2_with fail
  go_ret
  exact ⟨rfl, R2.only o3 HE1.out HE2.out, D3, ((OX.out.mono (by simp)).trans (Only.trans (((Only.refl [] W).drew.mono (by simp))) o2 (fun k hk => .inl hk)) (fun k hk => .inl (by simp at hk; rcases hk with rfl | rfl <;> simp))).trans o3 (fun k hk => .inl (by simp at hk; simp [hk]))⟩
set_option maxHeartbeats 4000000 in
theorem does_6 : Calls Try.prog 21 #[.pointer (some ⟨x, 0, none⟩), .pointer (some ⟨d, 0, none⟩), .agg #[.int .i64 6, .int .i64 t, .int .i64 p, .bool rb]] w (DoesE w x g d Q (stepS Q s 6 t p rb) (B + 9)) := by
  have bX := Blk.new w 39 #[.int .i64 6, .int .i64 t, .int .i64 p, .bool rb]
  have oX : Only [] w (w.alloc (.cells #[.int .i64 6, .int .i64 t, .int .i64 p, .bool rb] 39)) := (Only.refl [] w).alloc _
  obtain ⟨W, hW⟩ : ∃ W, w.alloc (.cells #[.int .i64 6, .int .i64 t, .int .i64 p, .bool rb] 39) = W := ⟨_, rfl⟩
  obtain ⟨X, hX⟩ : ∃ X, w.heap.size = X := ⟨_, rfl⟩
  have hx := h.facts.2.2.1
  have hg := h.facts.2.2.2
  have hdl := hd.lt
  rw [hX] at bX hx hg hdl
  rw [hW] at bX oX
  have k0 : W.cell? ⟨X, 0, none⟩ = some (.int .i64 6) := (bX.cell 0).trans rfl
  have k1 : W.cell? ⟨X, 1, none⟩ = some (.int .i64 t) := (bX.cell 1).trans rfl
  have k2 : W.cell? ⟨X, 2, none⟩ = some (.int .i64 p) := (bX.cell 2).trans rfl
  have k3 : W.cell? ⟨X, 3, none⟩ = some (.bool rb) := (bX.cell 3).trans rfl
  have HK1 := hide k1
  have HK2 := hide k2
  have HK3 := hide k3
  have HN1 := hide (show X ∉ [x, g] by simp; omega)
  have HN2 := hide (show X ∉ [d] by simp; omega)
  have OX := hide oX
  have RX := hide (h.only oX (by simp) (by simp))
  have DX := hide (hd.only0 oX)
  have ND := hide (RX.out.ned DX.out)
  have NR := hide RX.out.noRow
  have OK := hide h.ok
  have hs : stepS Q s 6 t p rb = sMove s t p := by unfold stepS; simp
  rw [hs]
  obtain ⟨c, hc⟩ : ∃ c, inC s t p = c := ⟨_, rfl⟩
  obtain ⟨s', hs'⟩ : ∃ s', sMove s t p = s' := ⟨_, rfl⟩
  have A1 := hide (moveB x g Q s _ B (B + 9) hB rfl t p c hc rfl W.drew (RX.out.only (Only.refl [] W).drew (by simp) (by simp)))
  have B2 := hide (fun V (o : Only [x, g] W.drew V) (hk : QOk s'.q) => (show Calls Try.prog 46 #[.pointer (some ⟨d, 0, none⟩), .int .i64 t, .int .i64 p] V (DOp V d Q s' c) from by rw [← hs', ← hc]; exact dmove d Q s V ((DX.out.only0 (Only.refl [] W).drew).only o NR.out ND.out) t p OK.out (hs' ▸ hk)))
  rw [hs'] at A1 ⊢
  have HE1 := hide (show x ∉ [d] from fun hm => ND.out (by simp at hm; simp [hm]))
  have HE2 := hide (show g ∉ [d] from fun hm => ND.out (by simp at hm; simp [hm]))
  clear hs hs' hc h hd bX oX hx hg hdl
  go_enter Try.func21, Try.ntmps21
  go_wp2_with fail
  go_region_held3 (fun V => V.cell? ⟨X, 1, none⟩ = some (.int .i64 t) ∧ V.cell? ⟨X, 2, none⟩ = some (.int .i64 p)) (first | go_keep | exact ⟨j1, j2⟩ | exact ⟨m1, m2⟩ | exact ⟨k1, k2⟩) (first
    | (go_at_call 46; (with_reducible refine (B2.out _ o2 R2.ok).mono ?_); rintro e w3 ⟨rfl, D3, o3⟩; have m1 := o3.keep (p := ⟨X, 1, none⟩) j1 HN2.out; have m2 := o3.keep (p := ⟨X, 2, none⟩) j2 HN2.out)
    | (go_at_call 30; (with_reducible refine A1.out.mono ?_); rintro e w2 ⟨rfl, R2, o2⟩; have j1 := o2.keep (p := ⟨X, 1, none⟩) HK1.out HN1.out; have j2 := o2.keep (p := ⟨X, 2, none⟩) HK2.out HN1.out))
  go_wp2_with fail
  go_ret
  exact ⟨rfl, R2.only o3 HE1.out HE2.out, D3, ((OX.out.mono (by simp)).trans (Only.trans (((Only.refl [] W).drew.mono (by simp))) o2 (fun k hk => .inl hk)) (fun k hk => .inl (by simp at hk; rcases hk with rfl | rfl <;> simp))).trans o3 (fun k hk => .inl (by simp at hk; simp [hk]))⟩
set_option maxHeartbeats 4000000 in
theorem does_7 : Calls Try.prog 21 #[.pointer (some ⟨x, 0, none⟩), .pointer (some ⟨d, 0, none⟩), .agg #[.int .i64 7, .int .i64 t, .int .i64 p, .bool rb]] w (DoesE w x g d Q (stepS Q s 7 t p rb) (B + 9)) := by
  have bX := Blk.new w 39 #[.int .i64 7, .int .i64 t, .int .i64 p, .bool rb]
  have oX : Only [] w (w.alloc (.cells #[.int .i64 7, .int .i64 t, .int .i64 p, .bool rb] 39)) := (Only.refl [] w).alloc _
  obtain ⟨W, hW⟩ : ∃ W, w.alloc (.cells #[.int .i64 7, .int .i64 t, .int .i64 p, .bool rb] 39) = W := ⟨_, rfl⟩
  obtain ⟨X, hX⟩ : ∃ X, w.heap.size = X := ⟨_, rfl⟩
  have hx := h.facts.2.2.1
  have hg := h.facts.2.2.2
  have hdl := hd.lt
  rw [hX] at bX hx hg hdl
  rw [hW] at bX oX
  have k0 : W.cell? ⟨X, 0, none⟩ = some (.int .i64 7) := (bX.cell 0).trans rfl
  have k1 : W.cell? ⟨X, 1, none⟩ = some (.int .i64 t) := (bX.cell 1).trans rfl
  have k2 : W.cell? ⟨X, 2, none⟩ = some (.int .i64 p) := (bX.cell 2).trans rfl
  have k3 : W.cell? ⟨X, 3, none⟩ = some (.bool rb) := (bX.cell 3).trans rfl
  have HK1 := hide k1
  have HK2 := hide k2
  have HK3 := hide k3
  have HN1 := hide (show X ∉ [x, g] by simp; omega)
  have HN2 := hide (show X ∉ [d] by simp; omega)
  have OX := hide oX
  have RX := hide (h.only oX (by simp) (by simp))
  have DX := hide (hd.only0 oX)
  have ND := hide (RX.out.ned DX.out)
  have NR := hide RX.out.noRow
  have OK := hide h.ok
  have hs : stepS Q s 7 t p rb = sLift s t p := by unfold stepS; simp
  rw [hs]
  obtain ⟨c, hc⟩ : ∃ c, inC s t p = c := ⟨_, rfl⟩
  obtain ⟨s', hs'⟩ : ∃ s', sLift s t p = s' := ⟨_, rfl⟩
  have A1 := hide (liftB x g Q s _ B (B + 9) hB rfl t p c hc rfl W.drew (RX.out.only (Only.refl [] W).drew (by simp) (by simp)))
  have B2 := hide (fun V (o : Only [x, g] W.drew V) (hk : QOk s'.q) => (show Calls Try.prog 47 #[.pointer (some ⟨d, 0, none⟩), .int .i64 t, .int .i64 p] V (DOp V d Q s' c) from by rw [← hs', ← hc]; exact dlift d Q s V ((DX.out.only0 (Only.refl [] W).drew).only o NR.out ND.out) t p OK.out (hs' ▸ hk)))
  rw [hs'] at A1 ⊢
  have HE1 := hide (show x ∉ [d] from fun hm => ND.out (by simp at hm; simp [hm]))
  have HE2 := hide (show g ∉ [d] from fun hm => ND.out (by simp at hm; simp [hm]))
  clear hs hs' hc h hd bX oX hx hg hdl
  go_enter Try.func21, Try.ntmps21
  go_wp2_with fail
  go_region_held3 (fun V => V.cell? ⟨X, 1, none⟩ = some (.int .i64 t) ∧ V.cell? ⟨X, 2, none⟩ = some (.int .i64 p)) (first | go_keep | exact ⟨j1, j2⟩ | exact ⟨m1, m2⟩ | exact ⟨k1, k2⟩) (first
    | (go_at_call 47; (with_reducible refine (B2.out _ o2 R2.ok).mono ?_); rintro e w3 ⟨rfl, D3, o3⟩; have m1 := o3.keep (p := ⟨X, 1, none⟩) j1 HN2.out; have m2 := o3.keep (p := ⟨X, 2, none⟩) j2 HN2.out)
    | (go_at_call 31; (with_reducible refine A1.out.mono ?_); rintro e w2 ⟨rfl, R2, o2⟩; have j1 := o2.keep (p := ⟨X, 1, none⟩) HK1.out HN1.out; have j2 := o2.keep (p := ⟨X, 2, none⟩) HK2.out HN1.out))
  go_wp2_with fail
  go_ret
  exact ⟨rfl, R2.only o3 HE1.out HE2.out, D3, ((OX.out.mono (by simp)).trans (Only.trans (((Only.refl [] W).drew.mono (by simp))) o2 (fun k hk => .inl hk)) (fun k hk => .inl (by simp at hk; rcases hk with rfl | rfl <;> simp))).trans o3 (fun k hk => .inl (by simp at hk; simp [hk]))⟩
set_option maxHeartbeats 4000000 in
theorem does_4 (hl : LfOk s) : Calls Try.prog 21 #[.pointer (some ⟨x, 0, none⟩), .pointer (some ⟨d, 0, none⟩), .agg #[.int .i64 4, .int .i64 t, .int .i64 p, .bool rb]] w (DoesE w x g d Q (stepS Q s 4 t p rb) (B + 9)) := by
  have bX := Blk.new w 39 #[.int .i64 4, .int .i64 t, .int .i64 p, .bool rb]
  have oX : Only [] w (w.alloc (.cells #[.int .i64 4, .int .i64 t, .int .i64 p, .bool rb] 39)) := (Only.refl [] w).alloc _
  obtain ⟨W, hW⟩ : ∃ W, w.alloc (.cells #[.int .i64 4, .int .i64 t, .int .i64 p, .bool rb] 39) = W := ⟨_, rfl⟩
  obtain ⟨X, hX⟩ : ∃ X, w.heap.size = X := ⟨_, rfl⟩
  have hx := h.facts.2.2.1
  have hg := h.facts.2.2.2
  have hdl := hd.lt
  rw [hX] at bX hx hg hdl
  rw [hW] at bX oX
  have k0 : W.cell? ⟨X, 0, none⟩ = some (.int .i64 4) := (bX.cell 0).trans rfl
  have k1 : W.cell? ⟨X, 1, none⟩ = some (.int .i64 t) := (bX.cell 1).trans rfl
  have k2 : W.cell? ⟨X, 2, none⟩ = some (.int .i64 p) := (bX.cell 2).trans rfl
  have k3 : W.cell? ⟨X, 3, none⟩ = some (.bool rb) := (bX.cell 3).trans rfl
  have HK1 := hide k1
  have HK2 := hide k2
  have HK3 := hide k3
  have HN1 := hide (show X ∉ [x, g] by simp; omega)
  have HN2 := hide (show X ∉ [d] by simp; omega)
  have OX := hide oX
  have RX := hide (h.only oX (by simp) (by simp))
  have DX := hide (hd.only0 oX)
  have ND := hide (RX.out.ned DX.out)
  have NR := hide RX.out.noRow
  have OK := hide h.ok
  have hs : stepS Q s 4 t p rb = sTick Q s := by unfold stepS; simp
  rw [hs]
  have HE1 := hide (show x ∉ [d] from fun hm => ND.out (by simp at hm; simp [hm]))
  have HE2 := hide (show g ∉ [d] from fun hm => ND.out (by simp at hm; simp [hm]))
  clear hs
  cases hT : tickT s with
  | none =>
    have A1 := hide (tickB x g Q s _ B (B + 9) hB rfl (fun t _ => hl t) 0 false none hT rfl rfl rfl W RX.out)
    have B2 := hide (fun V (o : Only [x, g] W V) (hk : QOk (sTick Q s).q) => dtick d Q s V (DX.out.only o NR.out ND.out) OK.out hk hl)
    unfold tickA at B2
    rw [hT] at B2
    dsimp only at B2
    generalize sTick Q s = s' at A1 B2 ⊢
    clear hT h hd bX oX hx hg hdl hl
    go_enter Try.func21, Try.ntmps21
    go_wp2_with (first
      | (go_at_call 44; (with_reducible refine (B2.out _ o2 R2.ok).mono ?_); rintro e w3 ⟨rfl, D3, o3⟩)
      | (go_at_call 13; (with_reducible refine A1.out.mono ?_); rintro e w2 ⟨rfl, R2, o2⟩))
    go_ret
    exact ⟨rfl, R2.only o3 HE1.out HE2.out, D3, ((OX.out.mono (by simp)).trans o2 (fun k hk => .inl (by simp at hk; rcases hk with rfl | rfl <;> simp))).trans o3 (fun k hk => .inl (by simp at hk; simp [hk]))⟩
  | some u =>
    have A1 := hide (tickB x g Q s _ B (B + 9) hB rfl (fun t _ => hl t) u true (some u) hT rfl rfl rfl W RX.out)
    have B2 := hide (fun V (o : Only [x, g] W V) (hk : QOk (sTick Q s).q) => dtick d Q s V (DX.out.only o NR.out ND.out) OK.out hk hl)
    unfold tickA at B2
    rw [hT] at B2
    dsimp only at B2
    generalize sTick Q s = s' at A1 B2 ⊢
    clear hT h hd bX oX hx hg hdl hl
    go_enter Try.func21, Try.ntmps21
    go_wp2_with (first
      | (go_at_call 44; (with_reducible refine (B2.out _ o2 R2.ok).mono ?_); rintro e w3 ⟨rfl, D3, o3⟩)
      | (go_at_call 13; (with_reducible refine A1.out.mono ?_); rintro e w2 ⟨rfl, R2, o2⟩))
    go_ret
    exact ⟨rfl, R2.only o3 HE1.out HE2.out, D3, ((OX.out.mono (by simp)).trans o2 (fun k hk => .inl (by simp at hk; rcases hk with rfl | rfl <;> simp))).trans o3 (fun k hk => .inl (by simp at hk; simp [hk]))⟩
set_option maxHeartbeats 1000000 in
theorem does_else (kd : Int) (h1 : kd ≠ 1) (h2 : kd ≠ 2) (h3 : kd ≠ 3) (h4 : kd ≠ 4) (h5 : kd ≠ 5) (h6 : kd ≠ 6) (h7 : kd ≠ 7) : Calls Try.prog 21 #[.pointer (some ⟨x, 0, none⟩), .pointer (some ⟨d, 0, none⟩), .agg #[.int .i64 kd, .int .i64 t, .int .i64 p, .bool rb]] w (DoesE w x g d Q (stepS Q s kd t p rb) (B + 9)) := by
  have hs : stepS Q s kd t p rb = s := by unfold stepS; simp [h1, h2, h3, h4, h5, h6, h7]
  rw [hs]
  have bX := Blk.new w 39 #[.int .i64 kd, .int .i64 t, .int .i64 p, .bool rb]
  have oX : Only [] w (w.alloc (.cells #[.int .i64 kd, .int .i64 t, .int .i64 p, .bool rb] 39)) := (Only.refl [] w).alloc _
  obtain ⟨W, hW⟩ : ∃ W, w.alloc (.cells #[.int .i64 kd, .int .i64 t, .int .i64 p, .bool rb] 39) = W := ⟨_, rfl⟩
  obtain ⟨X, hX⟩ : ∃ X, w.heap.size = X := ⟨_, rfl⟩
  rw [hX] at bX
  rw [hW] at bX oX
  have k0 : W.cell? ⟨X, 0, none⟩ = some (.int .i64 kd) := (bX.cell 0).trans rfl
  have OX := hide oX
  have RX := hide (h.only oX (by simp) (by simp))
  have DX := hide (hd.only0 oX)
  have d1 : (kd == 1) = false := by simp [h1]
  have d2 : (kd == 2) = false := by simp [h2]
  have d3 : (kd == 3) = false := by simp [h3]
  have d4 : (kd == 4) = false := by simp [h4]
  have d5 : (kd == 5) = false := by simp [h5]
  have d6 : (kd == 6) = false := by simp [h6]
  have d7 : (kd == 7) = false := by simp [h7]
  clear h1 h2 h3 h4 h5 h6 h7 hs h hd bX oX
  go_enter Try.func21, Try.ntmps21
  go_wp2_with fail
  go_ret
  exact ⟨rfl, BS.mono (by omega) RX.out, DX.out, OX.out.mono (by simp)⟩
theorem does_any (kd : Int) (hl : LfOk s) : Calls Try.prog 21 #[.pointer (some ⟨x, 0, none⟩), .pointer (some ⟨d, 0, none⟩), .agg #[.int .i64 kd, .int .i64 t, .int .i64 p, .bool rb]] w (DoesE w x g d Q (stepS Q s kd t p rb) (B + 9)) := by
  by_cases h1 : kd = 1
  · subst h1; exact does_1 x g d Q s B hB t p rb w h hd
  by_cases h2 : kd = 2
  · subst h2; exact does_2 x g d Q s B hB t p rb w h hd
  by_cases h3 : kd = 3
  · subst h3; exact does_3 x g d Q s B hB t p rb w h hd
  by_cases h4 : kd = 4
  · subst h4; exact does_4 x g d Q s B hB t p rb w h hd hl
  by_cases h5 : kd = 5
  · subst h5; exact does_5 x g d Q s B hB t p rb w h hd
  by_cases h6 : kd = 6
  · subst h6; exact does_6 x g d Q s B hB t p rb w h hd
  by_cases h7 : kd = 7
  · subst h7; exact does_7 x g d Q s B hB t p rb w h hd
  exact does_else x g d Q s B hB t p rb w h hd kd h1 h2 h3 h4 h5 h6 h7
end
end Go.Proofs.Ytnndengdlokmbaa
