/- Signals: the walks of All and Clear. Condition: the signals lie, or are not there. -/
import Derived.Test.YtnmlcijkggfhmaaSf1
import Derived.Scope
import Derived.WalkMore
namespace Go.Proofs.Ytnmlcijkggfhmaa
open Go.RowKit Go.Shelf
open Go.Maps (Keyed)
set_option linter.unusedVariables false
set_option linter.all false
set_option maxRecDepth 100000
attribute [local go_sem] Oper.semAt_some

theorem only_of_below {A B : World} (h : Below A.heap.size A B) : Only [] A B := ⟨h.os, h.tape, h.output, h.size, fun k hk _ => h.block k hk⟩
theorem wpIn_scope_wide {n : Nat} {P : Program} {c : Code} {Q : Exit → Act → World → Prop} {a : Act} {w : World} (h : c.wpIn Fence.wide n P (Exit.noGoto Q) a w) : (Code.scope c).wpIn Fence.wide n P Q a w :=
  wpIn_wide.2 (wp_scope_straight (wpIn_wide.1 h))
theorem blk_turn {W W' : World} {row : Option Nat} {g : Nat} {t : TypeId} {cs : Array Value} (h : Blk W g t cs) (hg : W.grownBy W' row) (hr : ∀ r, row = some r → ∃ o : Obj, W.heap[r]? = some o ∧ o.isCells = false) : Blk W' g t cs := by
  refine h.grown hg (fun e => ?_)
  obtain ⟨o, ho, hc⟩ := hr g e.symm
  unfold Blk at h
  rw [h] at ho
  cases ho
  simp [Obj.isCells] at hc
theorem heap_keep_alloc {W : World} {D : Nat} {o : Obj} (o' : Obj) (h : W.heap[D]? = some o) : (W.alloc o').heap[D]? = some o := (Below.heap_alloc W o' D (Array.getElem?_eq_some_iff.1 h).1).trans h
theorem kf_set (B : Nat) (W : World) (p : Addr) (u : Value) : KeepsFrom B W (W.setCell p u) := (KeepsOthers.setCell W p u).from B
theorem kpx_set {X : List Nat} {N : Nat} (W : World) (p : Addr) (u : Value) (hp : p.block ∈ X) : Kpx X N W (W.setCell p u) :=
  ⟨by simp, fun k hk hx => by rw [Below.heap_setCell W p u k (by rintro rfl; exact hx hp)]⟩
theorem only_below {n : Nat} {S : List Nat} {A B : World} (h : Only S A B) (hn : n ≤ A.heap.size) (hS : ∀ x ∈ S, n ≤ x) : Below n A B := ⟨h.os, h.tape, h.output, h.size, fun k hk => h.block k (Nat.lt_of_lt_of_le hk hn) (fun hm => by have := hS k hm; omega)⟩
/-- What the queues of a thread are. -/
def qOf (T : Nat) (L : List Snt) (t : Int) (k : Nat) : List Int := if k < 16 then [0] else if inT T t then queueOf L t.toNat k else []
theorem pend_zero (L : List Snt) (t : Nat) (h : ∀ x ∈ L, 1 ≤ x.n) : (pendOf L t).testBit 0 = false := by
  rw [pend_bit]
  cases hb : hasB L t 0
  · rfl
  · obtain ⟨x, hx, _, e⟩ := (has_iff ..).1 hb
    have := h x hx
    omega
theorem pieces_zero (Q : Nat → List Int) (n : Nat) : pieces 0 Q n = [] := by
  unfold pieces
  rw [List.flatMap_eq_nil_iff]
  intro k _
  unfold piece
  simp
theorem pieces_all {T S : Nat} {L : List Snt} (h : SInv T S L) (t : Int) : pieces (pendI L T t) (qOf T L t) 32 = allI T L t := by
  unfold pendI allI
  by_cases c : inT T t
  · rw [if_pos c, if_pos c]
    unfold pieces allOf
    rw [List.flatMap_def, List.flatMap_def]
    congr 1
    refine List.map_congr_left fun n hn => ?_
    unfold piece qOf
    rw [pend_bit, has_queue]
    by_cases hq : queueOf L t.toNat n = []
    · rw [hq]; simp
    · have e : (!(queueOf L t.toNat n).isEmpty) = true := by simpa using hq
      rw [if_pos e]
      by_cases h16 : n < 16
      · rw [if_pos h16, queue_low h h16, has_queue, if_pos e]
      · rw [if_neg h16, if_pos c]
  · rw [if_neg c, if_neg c, pieces_zero]
theorem flat_le (f : Nat → List (Nat × Int)) (b : Nat) (hf : ∀ n, (f n).length ≤ b) : ∀ m, ((List.range m).flatMap f).length ≤ m * b
  | 0 => by simp
  | m + 1 => by
    rw [List.range_succ, List.flatMap_append, List.length_append]
    have h1 := flat_le f b hf m
    have h2 := hf m
    simp only [List.flatMap_cons, List.flatMap_nil, List.append_nil]
    rw [Nat.add_mul]
    omega
section
variable {w : World} {g mb T S : Nat} {L : List Snt} {M : Nat → Nat} {Bs : List Nat}
theorem SG.kpx {X : List Nat} {N : Nat} {B : World} (h : SG w g mb T S L M Bs) (k : Kpx X N w B) (hg : g < N ∧ g ∉ X) (hm : mb < N ∧ mb ∉ X) (hB : ∀ b ∈ Bs, b < N ∧ b ∉ X) : SG B g mb T S L M Bs := by
  obtain ⟨cs, hb, hC⟩ := h.cells
  obtain ⟨f, n, hM, hQ⟩ := h.map
  exact ⟨⟨cs, k.blk hg.1 hg.2 hb, hC⟩, ⟨f, n, k.mp hm.1 hm.2 hM, hQ.1, fun t m h1 h2 h3 h4 => by
    obtain ⟨A, c, a1, a2, a4⟩ := hQ.2 t m h1 h2 h3 h4
    exact ⟨A, c, a1, a2, k.i64 hB a4⟩⟩, h.inv, h.t0, h.t1, h.s0, h.s1, h.mlt, fun b hb' => by
    obtain ⟨cs, hc⟩ := h.bs b hb'
    exact ⟨cs, k.blk (hB b hb').1 (hB b hb').2 hc⟩⟩
theorem defer_set {W : World} {D : Nat} {p : Addr} {u : Value} {ds : Option (List Deferred)} (h : W.heap[D]? = some (.deferred ds)) : (W.setCell p u).heap[D]? = some (.deferred ds) := (KeepsOthers.setCell W p u).same D _ h rfl
theorem SG.queue_le (h : SG w g mb T S L M Bs) (t n : Nat) : (queueOf L t n).length ≤ 32 := by
  rcases Nat.lt_or_ge n 16 with c | c
  · have := h.inv.one t n c; omega
  · have := Go.Proofs.Ytnmlcijkggfhmaa.queue_le L t n c; have := h.inv.used; have := h.s1; omega
theorem SG.all_le (h : SG w g mb T S L M Bs) (t : Int) : (allI T L t).length ≤ 1024 := by
  unfold allI
  split
  · exact flat_le _ 32 (fun n => by rw [List.length_map]; exact h.queue_le _ _) 32
  · simp
theorem SG.q_le (h : SG w g mb T S L M Bs) (t : Int) (k : Nat) : (qOf T L t k).length ≤ 1000 := by
  unfold qOf
  split
  · simp
  · split
    · have := h.queue_le t.toNat k; omega
    · simp
theorem SG.reads (h : SG w g mb T S L M Bs) (t : Int) {X : List Nat} {N : Nat} (hN : N ≤ w.heap.size) (hg : g < N ∧ g ∉ X) (hm : mb < N ∧ mb ∉ X) (hB : ∀ b ∈ Bs, b < N ∧ b ∉ X) : Reads (ptr g) t (pendI L T t) (qOf T L t) X N w := by
  intro k h1 h2 hb
  have hc : inT T t := by
    by_cases c : inT T t
    · exact c
    · unfold pendI at hb
      rw [if_neg c] at hb
      simp at hb
  unfold pendI at hb
  rw [if_pos hc, pend_bit, has_queue] at hb
  have hq : queueOf L t.toNat k ≠ [] := by simpa using hb
  obtain ⟨cs, hbk, hC⟩ := h.cells
  obtain ⟨f, n, hM, hQ⟩ := h.map
  have ht1 := h.t1
  have hlt : t.toNat < 16 := by have := hc.1; have := hc.2; omega
  obtain ⟨A, c, e, _, hI⟩ := hQ.2 t.toNat k hlt h1 h2 hq
  obtain ⟨l, hl⟩ := keyOfV t.toNat k hlt h2
  have eq : qOf T L t k = queueOf L t.toNat k := by unfold qOf; rw [if_neg (by omega), if_pos hc]
  have et : ((t.toNat : Nat) : Int) = t := by have := hc.1; omega
  refine ⟨g, mb, A, c, Bs, rfl, hg.1, hg.2, hB, eq ▸ hI, fun V hV => ⟨((hV.blk hg.1 hg.2 hbk).cell 35).trans hC.q, ?_⟩⟩
  have := ((hV.mp hm.1 hm.2 hM).look keyed Try.underlying59 hl e).1
  unfold keyV at this
  rw [et] at this
  rw [eq]
  exact this
/-- All's iterator, its contract. -/
theorem all_stops (n bx bt N : Nat) (X : List Nat) (hn : 1 ≤ n) (t : Int) (hN : N ≤ w.heap.size) (hbx : bx < N ∧ bx ∉ X) (hbt : bt < N ∧ bt ∉ X) (hg : g < N ∧ g ∉ X) (hm : mb < N ∧ mb ∉ X) (hB : ∀ b ∈ Bs, b < N ∧ b ∉ X)
    (hb : Blk w bx 24 #[ptr g]) (hb2 : Blk w bt 3 #[.int .i64 t]) (h : SG w g mb T S L M Bs) :
    SeqStopsK Fence.wide n Try.prog 46 #[.pointer (some ⟨bx, 0, none⟩), .pointer (some ⟨bt, 0, none⟩)] (fun x : Nat × Int => #[Value.agg #[.int .i64 (x.1 : Nat), .int .i64 x.2]]) (Kpx X N) (fun ys => ys = allI T L t) (fun pre => pre <+: allI T L t) (allI T L t).length w := by
  intro l J Jx W hW hJ hJx hY h0
  have hs := h.only0 (only_of_below hW)
  have hp : pendI L T t < 4294967296 := by unfold pendI; split; (exact h.plt _); (exact by decide)
  have hp0 : (pendI L T t).testBit 0 = false := by unfold pendI; split; (exact pend_zero L _ h.inv.n1); simp
  have hsz := hW.size
  have key := all1_in n l bx bt N X hn (some ⟨g, 0, none⟩) t (pendI L T t) hp hp0 (qOf T L t) (fun k hk => by unfold qOf; rw [if_pos hk]) J Jx W hJ (by rw [pieces_all h.inv]; exact hY) (by omega) hbx hbt (hb.below hW hb.lt) (hb2.below hW hb2.lt) (pending_any hs t) (hs.reads t (by omega) hg hm hB) (fun k => h.q_le t k) h0
  rw [pieces_all h.inv] at key
  exact key
end
theorem all_stops_no (w : World) (n bx bt N : Nat) (X : List Nat) (hn : 1 ≤ n) (a : Option Addr) (t : Int) (hN : N ≤ w.heap.size) (hbx : bx < N ∧ bx ∉ X) (hbt : bt < N ∧ bt ∉ X)
    (hb : Blk w bx 24 #[.pointer a]) (hb2 : Blk w bt 3 #[.int .i64 t]) (h : NoSig (.pointer a) w) :
    SeqStopsK Fence.wide n Try.prog 46 #[.pointer (some ⟨bx, 0, none⟩), .pointer (some ⟨bt, 0, none⟩)] (fun x : Nat × Int => #[Value.agg #[.int .i64 (x.1 : Nat), .int .i64 x.2]]) (Kpx X N) (fun ys => ys = []) (fun pre => pre <+: []) 0 w := by
  intro l J Jx W hW hJ hJx hY h0
  have hs := h.only0 (only_of_below hW)
  have hsz := hW.size
  have key := all1_in n l bx bt N X hn a t 0 (by decide) (by simp) (fun _ => [0]) (fun _ _ => rfl) J Jx W hJ (by rw [pieces_zero]; exact hY) (by omega) hbx hbt (hb.below hW hb.lt) (hb2.below hW hb2.lt) (pending_no _ t W hs) (fun k h1 h2 hb => by simp at hb) (fun k => by simp) h0
  rw [pieces_zero] at key
  exact key
theorem all_any (a : Option Addr) (t : Int) (w : World) : Calls Try.prog 37 #[.pointer a, .int .i64 t] w fun e w' => e = .returned (.func (.func 46) #[] #[.pointer (some ⟨w.heap.size, 0, none⟩), .pointer (some ⟨w.heap.size + 1, 0, none⟩)]) ∧ w' = (w.alloc (.cells #[.pointer a] 24)).alloc (.cells #[.int .i64 t] 3) := by
  go_enter Try.func37, Try.ntmps37
  go_wp2_with fail
  go_ret
  exact ⟨rfl, rfl⟩
theorem clear_no (v : Value) (t : Int) (w : World) (h : NoSig v w) : Calls Try.prog 20 #[v, .int .i64 t] w fun e w' => e = .returned (.tuple #[.int .i64 0, .int .i64 1]) ∧ w' = w := by
  have AS := hide (h.self t)
  clear h
  go_enter Try.func20, Try.ntmps20
  go_wp2_with (go_at_call 25; refine AS.out.mono ?_; rintro e w' ⟨rfl, hw⟩; obtain rfl := hw.symm; clear hw)
  exact bodyPost_ret (v := .tuple #[.int .i64 0, .int .i64 1]) (by simp [results, Try.results20, go_sem]) rfl ⟨rfl, rfl⟩
section
variable {w : World} {g mb T S : Nat} {L : List Snt} {M : Nat → Nat} {Bs : List Nat}
set_option maxHeartbeats 8000000 in
theorem clear_spec (h : SG w g mb T S L M Bs) (t : Int) : Calls Try.prog 20 #[ptr g, .int .i64 t] w fun e w' => e = .returned (.tuple #[.int .i64 ((allI T L t).length : Nat), .int .i64 (askC T t)]) ∧ SG w' g mb T S (clrL T L t) (clrM M T t) Bs ∧ Only [g, mb] w w' := by
  have AS := ask_sg h t
  by_cases ct : inT T t
  · rw [askC_in ct] at AS ⊢
    have AS := hide AS
    have CT := hide ct
    have ht1 := h.t1
    obtain ⟨k, rfl⟩ : ∃ k : Nat, t = k := ⟨t.toNat, by have := ct.1; omega⟩
    have hkT : k < T := by have := ct.2; omega
    have i0 : (0 : Int) ≤ (k : Int) := by omega
    have i1 : (k : Int) < 16 := by omega
    have AL := fun W => all_any (some ⟨g, 0, none⟩) (k : Int) W
    have hlen := h.all_le (k : Int)
    obtain ⟨hgl, hml, hBl⟩ := h.lt
    have HBL := hide hBl
    clear ct hBl
    refine (callsIn_wide (n := 8)).1 ?_
    unfold ptr at AS ⊢
    refine callsIn_of_wp_marks Try.func20 rfl trivial ?_ rfl
    simp only [Try.ntmps20, List.size_toArray, List.length_cons, List.length_nil, Nat.reduceAdd, Nat.reduceSub, Array.replicate_succ, Array.replicate_zero, List.push_toArray, List.append_toArray, List.nil_append, List.cons_append]
    gi_wp2_with (first
      | (refine ⟨trivial, ?_⟩; gi_at_call 25; refine (callsIn_wide.2 AS.out).mono ?_; rintro e w' ⟨rfl, hw⟩; obtain rfl := hw.symm; clear hw)
      | (refine ⟨trivial, ?_⟩; gi_at_call 37; refine (callsIn_wide.2 (AL _)).mono ?_; rintro e w' ⟨rfl, rfl⟩)
      | (apply wpIn_scope_wide))
    have bI := ((Blk.new w 3 #[.int .i64 0]).alloc (.cells #[ptr g] 24)).alloc (.cells #[.int .i64 (k : Int)] 3)
    have bX := (Blk.new (w.alloc (.cells #[.int .i64 0] 3)) 24 #[ptr g]).alloc (.cells #[.int .i64 (k : Int)] 3)
    have bT := Blk.new ((w.alloc (.cells #[.int .i64 0] 3)).alloc (.cells #[ptr g] 24)) 3 #[.int .i64 (k : Int)]
    rw [World.size_alloc] at bX
    rw [World.size_alloc, World.size_alloc] at bT
    have oB : Below w.heap.size w (((w.alloc (.cells #[.int .i64 0] 3)).alloc (.cells #[ptr g] 24)).alloc (.cells #[.int .i64 (k : Int)] 3)) := (((Below.refl w.heap.size w).alloc (Nat.le_refl _) _).alloc (by simp) _).alloc (by simp; omega) _
    have hsz : (((w.alloc (.cells #[.int .i64 0] 3)).alloc (.cells #[ptr g] 24)).alloc (.cells #[.int .i64 (k : Int)] 3)).heap.size = w.heap.size + 3 := by simp
    obtain ⟨V, hV⟩ : ∃ V, ((w.alloc (.cells #[.int .i64 0] 3)).alloc (.cells #[ptr g] 24)).alloc (.cells #[.int .i64 (k : Int)] 3) = V := ⟨_, rfl⟩
    rw [hV] at bI bX bT oB hsz
    unfold ptr at hV
    rw [hV]
    clear hV AL
    have hSG : SG V g mb T S L M Bs := h.only0 (only_of_below oB)
    have HG := hide hSG
    refine' wpIn_rangeFunc_ownG (F := Fence.wide) (n := 8) rfl (by decide) (gf := 46) (lb := #[.pointer (some ⟨w.heap.size + 1, 0, none⟩), .pointer (some ⟨w.heap.size + 1 + 1, 0, none⟩)]) rfl trivial (enters_of Try.func46 (by kernel_rfl) rfl)
      (all_stops 7 (w.heap.size + 1) (w.heap.size + 1 + 1) (w.heap.size + 3) [w.heap.size] (by decide) (k : Int) (by omega) (by simp) (by simp; omega) (by simp; omega) (by simp; omega) (fun b hb => by have := HBL.out b hb; simp; omega) bX bT hSG)
      (fun h k => h.trans k) (fun W l o o' hl h hc hw => Kpx.putObj W l o o' (by omega)) (Below.refl _ _) (fun _ => rfl)
      (fun pre W => Blk W w.heap.size 3 #[.int .i64 pre.length] ∧ Below w.heap.size w W)
      (fun c pre W => False)
      (fun s A B row hs hg hr => ⟨blk_turn hs.1 hg (fun r e => (hr r e).2), hs.2.grown hg hs.2.size (fun k e => by have := (hr k e).1; omega)⟩)
      (fun c s A B row hs hg hr => hs.elim)
      ⟨bI, oB⟩ _ ?assign ?body ?done ?stop
    case assign =>
      intro l x W K hK
      gi_wp2
      exact hK
    case body =>
      rintro l pre x W ⟨hb, ho⟩ hlen
      try dsimp only
      have c0 : W.cell? ⟨w.heap.size, 0, none⟩ = some (.int .i64 pre.length) := by simpa using hb.cell 0
      have f0 := hb.frozen 0
      have w1 : IntKind.i64.wrap ((pre.length : Int) + 1) = (pre.length : Int) + 1 := IntWalk.i64_in _ (by omega)
      gi_wp2
      exact ⟨kf_set _ _ _ _, kpx_set _ _ _ (by simp), by simpa using hb.set_ 0 (.int .i64 (pre.length + 1)), ho.setCell (p := ⟨w.heap.size, 0, none⟩) (Nat.le_refl _) _⟩
    case stop =>
      rintro D c pre V1 hDb hpre hf
      exact hf.elim
    case done =>
      rintro D ys V1 hDa rfl ⟨hb, ho⟩ hK1
      have c0 : V1.cell? ⟨w.heap.size, 0, none⟩ = some (.int .i64 (allI T L k).length) := by simpa using hb.cell 0
      have HS := hide (h.only0 (only_of_below ho))
      obtain ⟨n, hn⟩ : ∃ n, (allI T L k).length = n := ⟨_, rfl⟩
      rw [hn] at c0 hlen hb
      have HN := hide hn
      have OW := hide ((only_of_below ho).mono (T := [g, mb]) (by simp))
      have HK := hide hK1
      have HBB := hide hb
      clear h hSG hb ho hK1 bI bX bT oB hn
      gi_wp2
      gi_loopw [21] (fun vi wr => ∃ (i : Nat) (L' : List Snt), i ≤ n ∧ vi = .int .i64 i ∧ Hid (i + (allI T L' k).length = n) ∧ Hid (L'.filter (fun x => !(x.t == k)) = L.filter (fun x => !(x.t == k))) ∧ Hid (SG wr g mb T S L' M Bs) ∧ Hid (Only [g, mb] w wr) ∧ Hid (wr.heap[D]? = some (.deferred (some []))) ∧ Hid (Blk wr w.heap.size 3 #[.int .i64 n])) (fun vi _ => n - (intOf vi).toNat)
      case atStart => exact ⟨0, L, Nat.zero_le _, rfl, hide (by rw [HN.out]; simp), hide rfl, HS, OW, HK, HBB⟩
      case round =>
        obtain ⟨i, L', hi, rfl, hin, hf, hS, hO, hKD, hBc⟩ := hrel
        by_cases hli : i < n
        · cases hp : peekI T L' (k : Int) 4294967295 with
          | none =>
            obtain ⟨hz, _⟩ := peek_all_none hS.out.inv hp
            have := hin.out
            rw [hz] at this
            simp at this
            omega
          | some x =>
            obtain ⟨_, h2, h3⟩ := peek_all_some hS.out.inv hp
            have hnl : nextL T L' (k : Int) 4294967295 = takeL L' k x.1 := by unfold nextL; rw [hp]; rfl
            have NX := next_spec hS.out (k : Int) 4294967295 (by decide)
            rw [hnl, hp] at NX
            simp only [Int.toNat_natCast] at h2
            have hf2 := filter_take L' k x.1
            obtain ⟨L2, hL2⟩ : ∃ L2, takeL L' k x.1 = L2 := ⟨_, rfl⟩
            rw [hL2] at NX h2 hf2
            have HIN := hide (show i + 1 + (allI T L2 k).length = n by rw [← hin.out, h2]; simp; omega)
            have HF := hide (hf2.trans hf.out)
            unfold ptr at NX
            have NX := hide NX
            have j0 : (i : Int) < (n : Int) := by omega
            have hDlt : D < wr.heap.size := (Array.getElem?_eq_some_iff.1 hKD.out).1
            clear hp h2 h3 hnl hL2 hf2
            gi_wp2_with (first
              | (refine ⟨trivial, ?_⟩; gi_at_call 11; refine (callsIn_wide.2 NX.out).mono ?_; rintro e w2 ⟨rfl, D2, o2⟩; have D2 := hide D2; have O2 := hide o2; clear o2))
            go_roundw
            case rel => exact ⟨i + 1, L2, by omega, by go_num, HIN, HF, D2, hide (hO.out.trans' O2.out), hide ((O2.out.block D hDlt (by simp; omega)).trans hKD.out), hide (hBc.out.only O2.out (by simp; omega))⟩
            case measure => simp [intOf]; omega
        · obtain rfl : i = n := by omega
          have hz : allI T L' (k : Int) = [] := List.eq_nil_of_length_eq_zero (by have := hin.out; omega)
          have hno : ∀ x ∈ L', x.t ≠ k := by
            cases hp : peekI T L' (k : Int) 4294967295 with
            | none =>
              have := (peek_all_none hS.out.inv hp).2 CT.out
              simpa using this
            | some x =>
              obtain ⟨_, h2, _⟩ := peek_all_some hS.out.inv hp
              rw [hz] at h2
              cases h2
          have HF := hide (show clrL T L k = L' by
            unfold clrL
            rw [if_pos CT.out, Int.toNat_natCast, ← hf.out]
            exact filter_none hno)
          have HM := hide (show clrM M T k = setM M k 0 by unfold clrM; rw [if_pos CT.out, Int.toNat_natCast])
          obtain ⟨cs, hb, hC⟩ := hS.out.cells
          have k1 := (hb.cell (3 + k)).trans (hC.m k (by omega))
          have f1 := hb.frozen (3 + k)
          have hS2 := hide (show SG (wr.setCell ⟨g, 3 + k, none⟩ (.int .u32 0)) g mb T S L' (setM M k 0) Bs from hS.out.setMask (k := k) (v := 0) (by omega) (by decide))
          have cn : (wr.setCell ⟨g, 3 + k, none⟩ (.int .u32 0)).cell? ⟨w.heap.size, 0, none⟩ = some (.int .i64 i) := by
            rw [World.cell?_setCell_other _ ⟨g, 3 + k, none⟩ ⟨w.heap.size, 0, none⟩ _ (by simp)]
            simpa using hBc.out.cell 0
          have HKD := hide (defer_set (p := ⟨g, 3 + k, none⟩) (u := .int .u32 0) hKD.out)
          have OX := hide (hO.out.setCell (p := ⟨g, 3 + k, none⟩) (.inl (by simp)) (.int .u32 0))
          clear hb hC hz hno
          gi_wp2
          refine ⟨by simp, .inl ⟨_, _, rfl, run_takeDeferred HKD.out, ?_⟩⟩
          refine ⟨.tuple #[.int .i64 i, .int .i64 0], by simp [results, Try.results20, Try.f20, go_sem], by rw [HN.out], ?_⟩
          have hB2 := belowK_b (w := w) (Nat.le_refl _) (wr.setCell ⟨g, 3 + k, none⟩ (.int .u32 0)) D _ (.deferred none) (by omega) HKD.out rfl rfl
          rw [HF.out, HM.out]
          exact ⟨hS2.out.kpx (X := []) (Kpx.below hB2) (by simp; omega) (by simp; omega) (fun b hb => by have := HBL.out b hb; simp; omega), ⟨hB2.os.trans OX.out.os, hB2.tape.trans OX.out.tape, hB2.output.trans OX.out.output, Nat.le_trans OX.out.size hB2.size, fun j hj hx => (hB2.block j hj).trans (OX.out.block j hj hx)⟩⟩
  · rw [askC_out ct] at AS ⊢
    have AS := hide AS
    have HZ := hide (show (allI T L t).length = 0 by unfold allI; rw [if_neg ct]; rfl)
    have HL := hide (show clrL T L t = L by unfold clrL; rw [if_neg ct])
    have HM := hide (show clrM M T t = M by unfold clrM; rw [if_neg ct])
    have H := hide h
    clear ct h
    unfold ptr at AS ⊢
    go_enter Try.func20, Try.ntmps20
    go_wp2_with (go_at_call 25; refine AS.out.mono ?_; rintro e w' ⟨rfl, hw⟩; obtain rfl := hw.symm; clear hw)
    refine bodyPost_ret (v := .tuple #[.int .i64 0, .int .i64 2]) (by simp [results, Try.results20, go_sem]) rfl ⟨by rw [HZ.out]; rfl, ?_, Only.refl _ _⟩
    rw [HL.out, HM.out]
    exact H.out
end
end Go.Proofs.Ytnmlcijkggfhmaa
