/- Walks over arena's law: do, at any step; the script kept. -/
import Derived.Test.YtdlmgijbejkgaaaAr12
namespace Go.Proofs.Ytdlmgijbejkgaaa
open Go.RowKit
set_option linter.unusedVariables false
set_option linter.all false
set_option maxRecDepth 100000

theorem do_any {B g gb cap rg rgb rcap : Nat} {bs : List UInt8} {c : Int} {w : World} (s : St) (hk : s.ok B w) (h : Pr w B g gb cap rg rgb rcap bs c) (hc : c < 1000000) :
    Calls Try.prog 16 #[.pointer (some ⟨g, 0, none⟩), .pointer (some ⟨rg, 0, none⟩), .agg #[.int .i64 s.kd, .int .i64 s.off, .int .i64 s.n, .int .u32 s.word, .slice s.dA s.ds.length s.dc]] w (Did w B g gb rg rgb c) := by
  obtain ⟨o1, o2, m1, m2, wd, len, src, old⟩ := hk
  obtain ⟨kd, off, n, word, dA, dc, ds⟩ := s
  simp only at *
  by_cases k1 : kd = 1
  · subst k1
    by_cases ho : 0 ≤ off ∧ off < bs.length ∧ off % 4 = 0
    · obtain ⟨o, rfl⟩ : ∃ o : Nat, off = o := ⟨off.toNat, by omega⟩
      exact do_get_good o n word dA _ dc h (by omega) (by omega) hc
    · exact do_get_bad off n word dA _ dc h ho o1
  by_cases k2 : kd = 2
  · subst k2
    by_cases ho : 0 ≤ off ∧ off < bs.length ∧ off % 4 = 0
    · obtain ⟨o, rfl⟩ : ∃ o : Nat, off = o := ⟨off.toNat, by omega⟩
      exact do_set_good o n word dA _ dc h (by omega) (by omega) hc wd
    · exact do_set_bad off n word dA _ dc h ho o1
  by_cases k3 : kd = 3
  · subst k3
    by_cases ho : 0 ≤ off ∧ 0 ≤ n ∧ off ≤ bs.length ∧ n ≤ bs.length - off
    · obtain ⟨o, rfl⟩ : ∃ o : Nat, off = o := ⟨off.toNat, by omega⟩
      obtain ⟨m, rfl⟩ : ∃ m : Nat, n = m := ⟨n.toNat, by omega⟩
      exact do_read_good o m word dA _ dc h (by omega)
    · exact do_read_bad off n word dA _ dc h ho
  by_cases k4 : kd = 4
  · subst k4
    by_cases ho : 0 ≤ off ∧ off ≤ bs.length ∧ ((ds.length : Nat) : Int) ≤ bs.length - off
    · obtain ⟨o, rfl⟩ : ∃ o : Nat, off = o := ⟨off.toNat, by omega⟩
      exact do_write_good o n word dA _ dc ds h (by omega) rfl len src old
    · exact do_write_bad off n word dA _ dc ds h ho rfl len src old
  by_cases k5 : kd = 5
  · subst k5
    exact do_reset off n word dA _ dc h
  by_cases k6 : kd = 6
  · subst k6
    exact do_copy off n word dA _ dc h hc
  exact do_other kd off n word dA _ dc h (by omega)

theorem Script.only {B n : Nat} {A : Option Addr} {w w' : World} {S : List Nat} (h : Script B w A n) (ho : Only S w w') (hS : ∀ k ∈ S, B ≤ k) : Script B w' A n := fun k hk => by
  obtain ⟨a, s, rfl, hlo, hok, c0, c1, c2, c3, c4⟩ := h k hk
  have ha : ∀ j, (a.add j).block = a.block := fun j => block_of_add a j
  have hn : a.block ∉ S := fun hm => by have := hS _ hm; omega
  refine ⟨a, s, rfl, hlo, ⟨hok.o1, hok.o2, hok.m1, hok.m2, hok.wd, hok.len, hok.src.only ho (fun ad had hp hm => by have := (hok.old hp ad had).2; have := hS _ hm; omega), hok.old⟩, ho.keep c0 (by rw [ha]; exact hn), ho.keep c1 (by simp only [ha]; exact hn), ho.keep c2 (by simp only [ha]; exact hn), ho.keep c3 (by simp only [ha]; exact hn), ho.keep c4 (by simp only [ha]; exact hn)⟩
theorem Pr.new {w w1 w2 : World} {m : Nat} (h0 : 256 ≤ m) (o1 : Only [] w w1) (hA : Ar w1 (w.heap.size + 1) w.heap.size m (List.replicate m 0) 0) (o2 : Only [] w1 w2) (hR : RAr w2 (w1.heap.size + 1) w1.heap.size m (List.replicate m 0) 0) :
    Pr w2 w.heap.size (w.heap.size + 1) w.heap.size m (w1.heap.size + 1) w1.heap.size m (List.replicate m 0) 0 := by
  have l1 := hA.hdr.lt
  have l2 := hA.lt
  exact ⟨hA.only o2 (by simp) (by simp), hR, by omega, by omega, by omega, by omega, by omega, by omega, by omega, by omega, by omega, by simp; omega⟩
end Go.Proofs.Ytdlmgijbejkgaaa
