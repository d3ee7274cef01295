/- Walks over wire: the reader: there, Left, End, Open, Number, Signed. No condition. -/
import Derived.Test.YtmaljajdmgkakaaGreatDoorWi2
namespace Go.Proofs.YtmaljajdmgkakaaGreatDoor
open Go.RowKit
set_option linter.unusedVariables false
set_option linter.all false
attribute [local go_sem ↓] app_hide

/-- A reader: its header in block g, its bytes in block gb. -/
structure Rd (w : World) (g gb cap : Nat) (bs : List UInt8) (at_ : Nat) : Prop where
  hdr : Blk w g 120 #[.slice (some ⟨gb, 0, none⟩) bs.length cap, .int .i64 at_]
  row : w.ownsRow 0 5 1 (.slice (some ⟨gb, 0, none⟩) bs.length cap) bs.length (U8s bs)
  le : at_ ≤ bs.length
  max : bs.length ≤ 140737488351300
section
variable {w w' : World} {g gb cap at_ : Nat} {bs : List UInt8} {S : List Nat}
theorem Rd.only (h : Rd w g gb cap bs at_) (ho : Only S w w') (h1 : g ∉ S) (h2 : gb ∉ S) : Rd w' g gb cap bs at_ :=
  ⟨h.hdr.only ho h1, own_only h.row ho (fun x hx => by simp [Value.ownBlock] at hx; subst hx; exact h2), h.le, h.max⟩
theorem Rd.only0 (h : Rd w g gb cap bs at_) (ho : Only [] w w') : Rd w' g gb cap bs at_ := h.only ho (by simp) (by simp)
theorem Rd.ne (h : Rd w g gb cap bs at_) : gb ≠ g := fun e => own_blk_ne h.row h.hdr (by decide) (by simp [Value.ownBlock, e])
theorem Rd.k0 (h : Rd w g gb cap bs at_) : w.cell? ⟨g, 0, none⟩ = some (.slice (some ⟨gb, 0, none⟩) bs.length cap) := by simpa using h.hdr.cell 0
theorem Rd.k1 (h : Rd w g gb cap bs at_) : w.cell? ⟨g, 1, none⟩ = some (.int .i64 at_) := by simpa using h.hdr.cell 1
theorem Rd.src (h : Rd w g gb cap bs at_) : Src w (some ⟨gb, 0, none⟩) bs := Src.own h.row
theorem Rd.byte (h : Rd w g gb cap bs at_) (i : Nat) (x : UInt8) (hx : bs[i]? = some x) : w.cell? ⟨gb, i, none⟩ = some (.int .u8 x.toNat) := by
  have hi : i < bs.length := (List.getElem?_eq_some_iff.1 hx).1
  rw [h.row.cellAt i (by omega), U8s_get, hx]; rfl
theorem Rd.lt (h : Rd w g gb cap bs at_) : g < w.heap.size ∧ gb < w.heap.size := ⟨h.hdr.lt, (own_ge (A := some ⟨gb, 0, none⟩) h.row gb (by simp [blkOf])).2⟩
/-- The place moved. -/
theorem Rd.move (h : Rd w g gb cap bs at_) (k : Nat) (hk : k ≤ bs.length) : Rd (w.setCell ⟨g, 1, none⟩ (.int .i64 k)) g gb cap bs k := by
  have ho : Only [g] w (w.setCell ⟨g, 1, none⟩ (.int .i64 k)) := (Only.refl _ w).setCell (.inl (by simp)) _
  exact ⟨h.hdr.set_ 1 (.int .i64 k), own_only h.row ho (fun x hx => by simp [Value.ownBlock] at hx; subst hx; simpa using h.ne), hk, h.max⟩
end

theorem there_yes {g gb cap at_ : Nat} {bs : List UInt8} {w : World} (h : Rd w g gb cap bs at_) : Calls Tryz.prog 72 #[.pointer (some ⟨g, 0, none⟩)] w fun e w' => e = .returned (.bool true) ∧ w = w' := by
  have k0 := h.k0
  clear h
  go_enter Tryz.func72, Tryz.ntmps72
  go_wp2
  go_ret
  exact ⟨rfl, rfl⟩
/-- No reader, or a zero one. -/
def Gone (w : World) (p : Option Addr) : Prop := p = none ∨ ∃ g, p = some ⟨g, 0, none⟩ ∧ w.cell? ⟨g, 0, none⟩ = some (.slice none 0 0)
theorem Gone.only0 {w w' : World} {p : Option Addr} (h : Gone w p) (ho : Only [] w w') : Gone w' p := by
  rcases h with rfl | ⟨g, rfl, hc⟩
  · exact .inl rfl
  · exact .inr ⟨g, rfl, ho.keep0 hc⟩
theorem there_no (p : Option Addr) (w : World) (h : Gone w p) : Calls Tryz.prog 72 #[.pointer p] w fun e w' => e = .returned (.bool false) ∧ w = w' := by
  rcases h with rfl | ⟨g, rfl, hc⟩
  · go_enter Tryz.func72, Tryz.ntmps72
    go_wp2
    go_ret
    exact ⟨rfl, rfl⟩
  · go_enter Tryz.func72, Tryz.ntmps72
    go_wp2
    go_ret
    exact ⟨rfl, rfl⟩

theorem left_any {g gb cap at_ : Nat} {bs : List UInt8} {w : World} (h : Rd w g gb cap bs at_) : Calls Tryz.prog 75 #[.pointer (some ⟨g, 0, none⟩)] w fun e w' => e = .returned (.int .i64 ((bs.length - at_ : Nat) : Int)) ∧ ∃ k, w.drewN k = w' := by
  have k0 := h.k0
  have k1 := h.k1
  have hle := h.le
  have hmx := h.max
  have H := hide h
  clear h
  go_enter Tryz.func75, Tryz.ntmps75
  go_wp2_with (go_at_call 72; refine (there_yes H.out).mono ?_; rintro e w' ⟨rfl, rfl⟩)
  go_quiet (fail)
  go_wp2
  go_ret
  exact ⟨by rw [Int.ofNat_sub hle]; rfl, _, rfl⟩
theorem end_any {g gb cap at_ : Nat} {bs : List UInt8} {w : World} (h : Rd w g gb cap bs at_) : Calls Tryz.prog 36 #[.pointer (some ⟨g, 0, none⟩)] w fun e w' => e = .returned (.int .i64 (if bs.length ≤ at_ then 0 else 4)) ∧ ∃ k, w.drewN k = w' := by
  have hle := h.le
  have H := hide h
  clear h
  by_cases hc : bs.length ≤ at_
  · have d : ¬ (0 : Int) < ((bs.length - at_ : Nat) : Int) := by omega
    rw [if_pos hc]
    go_enter Tryz.func36, Tryz.ntmps36
    go_wp2_with (first
      | (go_at_call 72; refine (there_yes H.out).mono ?_; rintro e w' ⟨rfl, rfl⟩)
      | (go_at_call 75; refine (left_any H.out).mono ?_; rintro e w' ⟨rfl, k, rfl⟩))
    go_ret
    exact ⟨rfl, _, rfl⟩
  · have d : (0 : Int) < ((bs.length - at_ : Nat) : Int) := by omega
    rw [if_neg hc]
    go_enter Tryz.func36, Tryz.ntmps36
    go_wp2_with (first
      | (go_at_call 72; refine (there_yes H.out).mono ?_; rintro e w' ⟨rfl, rfl⟩)
      | (go_at_call 75; refine (left_any H.out).mono ?_; rintro e w' ⟨rfl, k, rfl⟩))
    go_ret
    exact ⟨rfl, _, rfl⟩

/-- Open's reader. -/
def Opened (w : World) (ds : List UInt8) (e : Ending) (w' : World) : Prop := Only [] w w' ∧ ∃ g gb cap : Nat, e = .returned (.pointer (some ⟨g, 0, none⟩)) ∧ Rd w' g gb cap ds 0 ∧ w.heap.size ≤ g ∧ w.heap.size ≤ gb
theorem open_any (A : Option Addr) (n c : Nat) (ds : List UInt8) (w : World) (hl : ds.length = n) (hn : n ≤ 140737488351300) (hs : Src w A ds) : Calls Tryz.prog 30 #[.slice A n c] w (Opened w ds) := by
  have hmk := run_made (n + 1) ((n : Int) + 1) (by omega) (by omega) w
  obtain ⟨A2, c2, w2, hrun, hrow2, o2, hk, hA2⟩ := run_app_src w.heap.size (some ⟨w.heap.size, 0, none⟩) 0 (n + 1) [] A n c ds (w.alloc (.cells (madeCells #[.int .u8 0] (n + 1)) 5)) (own_made _ _ (by unfold maxLen; omega) w (Nat.le_refl _)) hl (hs.alloc _) (by omega) (by simp)
  rw [Nat.zero_add] at hrun hrow2
  have HR := hide hrow2
  have HA := hide (hA2 (by simp))
  have HL := hide hl
  have hO : Only [] w w2 := ((Only.refl [] w).alloc _).trans o2 (fun x hx => .inr (by simp [blkOf] at hx; omega))
  clear hrow2 hA2 hk hs o2 hl
  go_enter Tryz.func30, Tryz.ntmps30
  go_wp2_with fail
  go_ret
  obtain ⟨g2, rfl⟩ := HA.out
  have hrow := HR.out
  rw [List.nil_append] at hrow
  have hge := (own_ge hrow g2 (by simp [blkOf])).1
  obtain rfl : ds.length = n := HL.out
  refine ⟨hO.alloc _, w2.heap.size, g2, c2, rfl, ⟨?_, own_mono (hrow.alloc _) (Nat.zero_le _), Nat.zero_le _, hn⟩, hO.size, hge⟩
  simpa using Blk.new w2 120 #[.slice (some ⟨g2, 0, none⟩) ds.length c2, .int .i64 0]
end Go.Proofs.YtmaljajdmgkakaaGreatDoor
