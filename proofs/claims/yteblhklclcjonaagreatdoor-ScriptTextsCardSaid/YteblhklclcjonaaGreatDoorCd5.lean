/- Code: Go's library as the program calls it: cutting, trimming, numerals, joining. Condition: Env (the laid variables). -/
import Derived.Test.YteblhklclcjonaaGreatDoorCd4
import Derived.Test.YteblhklclcjonaaGreatDoorShelf
namespace Go.Proofs.YteblhklclcjonaaGreatDoor
open Go.RowKit
set_option linter.unusedVariables false
set_option linter.all false
set_option maxRecDepth 20000

structure Env (w : World) : Prop where
  tab : Lib.TabIs Tryz.prog w "internal/strconv.uint64pow10" .u64 Lib.pow10Tab
  len : ∃ m, w.cell? ⟨0, 0, none⟩ = some (.int .i64 m)
  es : ∃ te p, w.cell? ⟨1, 0, none⟩ = some (.iface te p)
  er : ∃ te p, w.cell? ⟨2, 0, none⟩ = some (.iface te p)
theorem tab_only {w w' : World} (h : Lib.TabIs Tryz.prog w "internal/strconv.uint64pow10" .u64 Lib.pow10Tab) (o : Only [] w w') : Lib.TabIs Tryz.prog w' "internal/strconv.uint64pow10" .u64 Lib.pow10Tab := by
  have hg : Tryz.prog.globalNamed "internal/strconv.uint64pow10" = some 3 := by kernel_rfl
  unfold Lib.TabIs World.var? at h ⊢
  rw [hg] at h ⊢
  simp only [Option.bind_some] at h ⊢
  have hl : 3 < w.heap.size := by
    rcases Nat.lt_or_ge 3 w.heap.size with q | q
    · exact q
    · rw [Array.getElem?_eq_none q] at h; simp at h
  rw [o.block 3 hl (by simp)]
  exact h
theorem Env.only {w w' : World} (h : Env w) (o : Only [] w w') : Env w' := by
  obtain ⟨m, hm⟩ := h.len
  obtain ⟨t, p, hp⟩ := h.es
  obtain ⟨t', p', hp'⟩ := h.er
  exact ⟨tab_only h.tab o, ⟨m, o.keep0 hm⟩, ⟨t, p, o.keep0 hp⟩, ⟨t', p', o.keep0 hp'⟩⟩
theorem only_grow (w : World) (k : Nat) (os : Array Obj) : Only [] w (Go.Sort.grow (w.drewN k) os) := by
  refine ⟨rfl, rfl, rfl, ?_, ?_⟩
  · show w.heap.size ≤ (w.heap ++ os).size
    simp
  · intro k hk _
    show (w.heap ++ os)[k]? = w.heap[k]?
    rw [Array.getElem?_append_left hk]
theorem only_bytes (w w' : World) (t : Nat) (h : w' = w ∨ ∃ b, w' = Lib.bytesWorld w t b) : Only [] w w' := by
  rcases h with rfl | ⟨b, rfl⟩
  · exact Only.refl _ _
  · exact Only.ofBelow (Lib.bytesWorld_below w t b)
theorem fmt_any (n : Int) (h0 : -9223372036854775808 ≤ n) (h1 : n ≤ 9223372036854775807) (w : World) (he : Env w) :
    Calls Tryz.prog 76 #[.int .i64 n, .int .i64 10] w fun e w' => e = .returned (.string ⟨(itoaF n).toArray⟩) ∧ Only [] w w' := by
  rw [itoaF_eq n h0 h1]
  exact (Tryz.strconv_FormatInt_10 n h0 h1 w he.tab).mono fun e w' ⟨he, k, os, hw⟩ => ⟨he, hw ▸ only_grow w k os⟩
theorem itoa_any (n : Int) (h0 : 0 ≤ n) (h1 : n < 100) (w : World) : Calls Tryz.prog 31 #[.int .i64 n] w fun e w' => e = .returned (.string ⟨(itoaF n).toArray⟩) ∧ w' = w := by
  obtain ⟨k, rfl⟩ : ∃ k : Nat, n = k := ⟨n.toNat, by omega⟩
  have e : itoaF (k : Int) = Lib.decDigits k := by
    unfold itoaF
    rw [if_neg (by omega), Int.toNat_natCast, digF_eq 20 k (by omega)]
  rw [e]
  exact Tryz.strconv_Itoa_small k (by omega) w
theorem atoi_any (s : ByteArray) (hs : s.size ≤ 4000000) (w : World) (he : Env w) : Calls Tryz.prog 33 #[.string s] w fun e w' => (∃ x, e = .returned (.tuple #[.int .i64 (atoiV s.data.toList), x])) ∧ Only [] w w' := by
  obtain ⟨t, p, hp⟩ := he.es
  obtain ⟨t', p', hp'⟩ := he.er
  unfold atoiV
  cases h : Lib.atoiAll s.data.toList
  · rename_i v
    exact (Tryz.strconv_Atoi_ok s (by omega) v h w).mono fun e w' ⟨h1, h2⟩ => ⟨⟨_, h1⟩, only_bytes _ _ _ h2⟩
  · exact (Tryz.strconv_Atoi_syntax s (by omega) h _ w hp (.inr ⟨_, _, rfl⟩)).mono fun e w' ⟨N, h1, _, _, h4⟩ => ⟨⟨_, h1⟩, Only.ofBelow h4⟩
  · exact (Tryz.strconv_Atoi_range s (by omega) h _ w hp' (.inr ⟨_, _, rfl⟩)).mono fun e w' ⟨N, h1, _, _, h4⟩ => ⟨⟨_, h1⟩, Only.ofBelow h4⟩
theorem parse_any (s : ByteArray) (hs : s.size ≤ 4000000) (w : World) (he : Env w) : Calls Tryz.prog 105 #[.string s, .int .i64 10, .int .i64 64] w fun e w' => (∃ x, e = .returned (.tuple #[.int .i64 (parseV s.data.toList), x])) ∧ Only [] w w' := by
  obtain ⟨t, p, hp⟩ := he.es
  obtain ⟨t', p', hp'⟩ := he.er
  unfold parseV
  cases h : Lib.parseIntB 64 s.data.toList
  · rename_i v
    exact (Tryz.strconv_ParseInt_10_at64_ok s (by omega) v h w).mono fun e w' ⟨h1, h2⟩ => ⟨⟨_, h1⟩, only_bytes _ _ _ h2⟩
  · exact (Tryz.strconv_ParseInt_10_at64_syntax s (by omega) h _ w hp (.inr ⟨_, _, rfl⟩)).mono fun e w' ⟨N, h1, _, _, h4⟩ => ⟨⟨_, h1⟩, Only.ofBelow h4⟩
  · exact (Tryz.strconv_ParseInt_10_at64_range s (by omega) h _ w hp' (.inr ⟨_, _, rfl⟩)).mono fun e w' ⟨N, h1, _, _, h4⟩ => ⟨⟨_, h1⟩, Only.ofBelow h4⟩
theorem cut_any (s : ByteArray) (c : UInt8) (hs : s.size ≤ 4000000) (w : World) (he : Env w) : Calls Tryz.prog 32 #[.string s, .string ⟨#[c]⟩] w fun e w' =>
    e = .returned (.tuple #[.string ⟨(cutAt c s.data.toList).1.toArray⟩, .string ⟨(cutAt c s.data.toList).2.1.toArray⟩, .bool (cutAt c s.data.toList).2.2]) ∧ Only [] w w' := by
  obtain ⟨m, hm⟩ := he.len
  have := Tryz.strings_Cut s ⟨#[c]⟩ m w (by omega) hm
  rw [show (ByteArray.mk #[c]).data.toList = [c] from rfl, cut_eq] at this
  exact this.mono fun e w' ⟨h1, n, h2⟩ => ⟨h1, h2 ▸ (Only.refl [] w).drewN n⟩
theorem trim_any (s : ByteArray) (c : UInt8) (w : World) : Calls Tryz.prog 101 #[.string s, .string ⟨#[c]⟩] w fun e w' => e = .returned (.string ⟨(Lib.trimPrefix s.data.toList [c]).toArray⟩) ∧ w' = w :=
  Tryz.strings_TrimPrefix s ⟨#[c]⟩ w
/-! ## Lists of strings -/
def Strs (l : List ByteArray) : List Value := l.map .string
def Qs (w : World) (B : Nat) (A : Option Addr) (c : Nat) (l : List ByteArray) : Prop := w.ownsRow B 9 1 (.slice A l.length c) l.length (Strs l)
theorem info9 : (Tryz.prog.info? 9).map (fun i => (i.zero, i.size, i.bytes)) = some (some (.string ⟨#[]⟩), 1, 16) := by kernel_rfl
theorem Qs.only {w w' : World} {B : Nat} {A : Option Addr} {c : Nat} {l : List ByteArray} {S : List Nat} (h : Qs w B A c l) (o : Only S w w') (hS : ∀ x ∈ blkOf A, x ∉ S) : Qs w' B A c l := own_only' h o hS
theorem Qs.only0 {w w' : World} {B : Nat} {A : Option Addr} {c : Nat} {l : List ByteArray} (h : Qs w B A c l) (o : Only [] w w') : Qs w' B A c l := h.only o (by simp)
theorem app_str (W : World) (B : Nat) (A : Option Addr) (c : Nat) (l : List ByteArray) (v : ByteArray) (hrow : Qs W B A c l) (hl : l.length ≤ 2000000) (hB : B ≤ W.heap.size) :
    ∃ g' c' w2, (AppH #[50, 50] 50 #[.slice A l.length c, .slice (some ⟨W.heap.size, 0, none⟩) 1 1]).run Tryz.prog (W.alloc (.cells #[.string v] 9)) = .ok (.slice (some ⟨g', 0, none⟩) (l.length + 1) c') w2 ∧
      Qs w2 B (some ⟨g', 0, none⟩) c' (l ++ [v]) ∧ Only (blkOf A) W w2 := by
  obtain ⟨i0, hi, hz0, hz1, hz2⟩ := info_parts info9
  obtain ⟨g', cap', w2, hrun, hown, ho, hgg⟩ := append_at (P := Tryz.prog) (W.alloc (.cells #[.string v] 9)) B 50 50 9 i0 (.string ⟨#[]⟩) 1 16 Tryz.underlying50 hi hz0 hz1 hz2 rfl (by omega) A l.length c (Strs l) (own_only' hrow ((Only.refl [] W).alloc _) (by simp))
    ⟨W.heap.size, 0, none⟩ 1 1 [.string v] rfl (fun j u hj => by
      have := (Blk.new W 9 #[.string v]).cell j
      rw [add_mk, Nat.zero_add, this]
      show ([.string v] : List Value).toArray[j]? = _
      rw [List.getElem?_toArray]
      exact hj) (by simp [Value.oneCell']) (.inl (by omega)) (by unfold maxLen; omega) (by omega) (by simp; omega)
  rw [app_hide] at hrun
  have e : Strs l ++ [.string v] = Strs (l ++ [v]) := by simp [Strs]
  rw [e] at hown
  exact ⟨g', cap', w2, hrun, by unfold Qs; simpa using hown, ((Only.refl (blkOf A) W).alloc _).trans' ho⟩
theorem join_any (W : World) (B : Nat) (A : Option Addr) (c : Nat) (l : List ByteArray) (hrow : Qs W B A c l) (h0 : 0 < l.length) (hl : l.length ≤ 100) (hlen : (Lib.join (l.map (·.data.toList)) [32]).length ≤ 4000000) :
    Calls Tryz.prog 97 #[.slice A l.length c, .string ⟨#[32]⟩] W fun e w' => e = .returned (.string ⟨(Lib.join (l.map (·.data.toList)) [32]).toArray⟩) ∧ Only [] W w' := by
  obtain ⟨g, rfl, h1, h2⟩ := own_cell hrow h0
  have hc := own_cap hrow
  have hg := own_ge hrow g (by simp [blkOf])
  exact (Tryz.strings_Join g 0 c l ⟨#[32]⟩ W (fun j x hj => by
    rw [Nat.zero_add, h1 j (by rw [Nat.mul_one]; exact (List.getElem?_eq_some_iff.1 hj).1)]
    unfold Strs
    rw [List.getElem?_map, hj]
    rfl) hg.2 (by omega) hc.1 (by show (Lib.join (l.map (·.data.toList)) [32]).length ≤ _; omega)).mono fun e w' ⟨h3, h4⟩ => ⟨h3, Only.ofBelow h4⟩
end Go.Proofs.YteblhklclcjonaaGreatDoor
