/- The reference's RunSpace. -/
import Derived.Test.YtklobepkihdbkaaSpR
import Derived.Test.YtklobepkihdbkaaSsO
namespace Go.Proofs.Ytklobepkihdbkaa.SsN
open Go.RowKit Go.MuLone Go.Proofs.YtklobepkihdbkaaW.PrintWords Go.Proofs.Ytklobepkihdbkaa.PFnExactRunSpace Mem Sp SpI SpA SpP SpQ SpD SpR SsR SsM SsD SsE SsO
set_option linter.unusedVariables false
set_option linter.unusedSimpArgs false
theorem infoP : (Try.prog.info? 121).map (fun i => (i.zero, i.size, i.bytes)) = some (some (.agg #[.bool false, .bool false, .slice none 0 0]), 3, 32) := by kernel_rfl
def noPages (n : Nat) : Array Value := madeCells (Value.agg #[.bool false, .bool false, .slice none 0 0]).cells (n * 3)
theorem make_pages (w : World) (n : Nat) (hn : n ≤ 4096) : (Instr.makeSlice 115 (.int .i64 n) (.int .i64 n)).run Try.prog w = .ok (.slice (some ⟨w.heap.size, 0, none⟩) n n) (w.alloc (.cells (noPages n) 121)) := by
  obtain ⟨i0, hi, hz0, hz1, hz2⟩ := info_parts infoP
  have := run_make (P := Try.prog) w 115 121 i0 (.agg #[.bool false, .bool false, .slice none 0 0]) Try.underlying115 hi hz0 .i64 .i64 n n (by omega) (by omega) (by rw [hz2]; omega) (by omega)
  rw [hz1, Int.toNat_natCast] at this
  exact this
theorem noPages_at (n k : Nat) (hk : k < n) : (noPages n)[k * 3]? = some (.bool false) ∧ (noPages n)[k * 3 + 1]? = some (.bool false) ∧ (noPages n)[k * 3 + 2]? = some (.slice none 0 0) := by
  have e0 : (k * 3) % 3 = 0 := by omega
  have e1 : (k * 3 + 1) % 3 = 1 := by omega
  have e2 : (k * 3 + 2) % 3 = 2 := by omega
  have l0 : k * 3 < n * 3 := by omega
  have l1 : k * 3 + 1 < n * 3 := by omega
  have l2 : k * 3 + 2 < n * 3 := by omega
  unfold noPages madeCells
  refine ⟨?_, ?_, ?_⟩
  · rw [Array.getElem?_map, Array.getElem?_range, if_pos l0]
    show some ((#[Value.bool false, .bool false, .slice none 0 0] : Array Value)[k * 3 % 3]!) = _
    rw [e0]; rfl
  · rw [Array.getElem?_map, Array.getElem?_range, if_pos l1]
    show some ((#[Value.bool false, .bool false, .slice none 0 0] : Array Value)[(k * 3 + 1) % 3]!) = _
    rw [e1]; rfl
  · rw [Array.getElem?_map, Array.getElem?_range, if_pos l2]
    show some ((#[Value.bool false, .bool false, .slice none 0 0] : Array Value)[(k * 3 + 2) % 3]!) = _
    rw [e2]; rfl
theorem noPages_len (n : Nat) : (noPages n).size = n * 3 := size_madeCells _ _
set_option maxRecDepth 100000 in
set_option maxHeartbeats 1000000 in
theorem new_is (w : World) (n : Nat) (bud : Int) (hn : n ≤ 4096) :
    Calls Try.prog 45 #[.int .i64 n, .int .i64 bud] w fun e w' => ∃ sb, e = .returned (.pointer (some ⟨sb, 0, none⟩)) ∧ SSpace w' (fun k => w.heap.size ≤ k ∧ k < w'.heap.size) sb bud (fresh n) ∧ Turn w w' (fun _ => False) := by
  have hm := make_pages w n hn
  go_enter Try.func45, Try.ntmps45
  go_wp2
  go_ret
  refine ⟨_, rfl, ⟨w.heap.size, some ⟨w.heap.size, 0, none⟩, n, fun _ => 0, ?_⟩, ((Turn.refl w _).alloc _).alloc _⟩
  have hl : (fresh n).length = n := List.length_replicate
  have h0 := alloc_new w (.cells (noPages n) 121)
  have h1 := alloc_new (w.alloc (.cells (noPages n) 121)) (.cells #[.slice (some ⟨w.heap.size, 0, none⟩) n n, .int .i64 bud] 117)
  have hz : (w.alloc (.cells (noPages n) 121)).heap.size = w.heap.size + 1 := by simp
  rw [hz] at h1
  refine ⟨by rw [hl]; exact h1, fun _ => ⟨rfl, ⟨Nat.le_refl _, by simp; omega⟩, noPages n, alloc_old h0 _, by rw [hl, noPages_len]; exact Nat.le_refl _, fun k hk => ?_⟩, fun k bs op e => (by rw [pg_fresh] at e; cases e), fun k k' e => (by rw [pg_fresh] at e; cases e), ⟨by omega, by simp⟩, fun k hk => hk.2, by rw [hl]; exact hn, by rw [hl]; exact Nat.le_refl _⟩
  rw [hl] at hk
  rw [pg_fresh]
  exact noPages_at n k hk
end Go.Proofs.Ytklobepkihdbkaa.SsN
/- The reference's RunSpace (written by wip/mkssn.py out of XSpR). -/
namespace Go.Proofs.Ytklobepkihdbkaa.SsN2
open Go.RowKit Go.MuLone Go.Proofs.YtklobepkihdbkaaW.PrintWords Go.Proofs.Ytklobepkihdbkaa.PFnExactRunSpace Mem Sp SpI SpA SpP SpQ SpD SsR SsM SsD SsE SsO SsN
open Go.Proofs.Ytklobepkihdbkaa.SpR (fresh stepA ansO runS runO runO_succ runO_len RnPost runOK rn_no info54 data_on cell_turn)
set_option linter.unusedVariables false
set_option linter.unusedSimpArgs false
/-- What stands between two operations. -/
structure RunI (w W : World) (F : Nat → Prop) (sb bx : Nat) (bud : Int) (A : Pages) (va : Value) (xs : List S54) : Prop where
  s : SSpace W F sb bud A
  b : W.heap[bx]? = some (.cells #[.bool true, va, .int .i64 0, .slice none 0 0] 48 (0, 0))
  r : W.heap[w.heap.size]? = some (.cells #[.bool false, .slice none 0 0, .int .i64 0, .slice none 0 0] 48 (0, 0))
  a : Kd.S k54 54 W (w.heap.size + 1) (fun k => ¬ F k ∧ k ≠ bx) va xs
  t : Turn w W (fun _ => False)
  f : ∀ k, F k → w.heap.size + 1 ≤ k ∧ k ≠ bx
  hb : w.heap.size + 1 ≤ bx
section
variable {w W W' W1 : World} {F G : Nat → Prop} {sb bx : Nat} {bud : Int} {A A' : Pages} {va v1 vd : Value} {xs : List S54} {p : S54}
theorem RunI.alloc (h : RunI w W F sb bx bud A va xs) (o : Obj) : RunI w (W.alloc o) F sb bx bud A va xs :=
  ⟨h.s.turned (G := fun _ => False) ((Turn.refl W _).alloc o) (fun _ _ e => e), alloc_old h.b o, alloc_old h.r o, Kd.S_alloc h.a o, h.t.alloc o, h.f, h.hb⟩
theorem RunI.drew (h : RunI w W F sb bx bud A va xs) : RunI w W.drew F sb bx bud A va xs :=
  ⟨h.s.turned (G := fun _ => False) (Turn.refl W _).drew (fun _ _ e => e), h.b, h.r, Kd.S_drew h.a, h.t.drew, h.f, h.hb⟩
/-- Behind an operation, ahead of the append. -/
structure RunM (w W W' : World) (F G : Nat → Prop) (sb bx : Nat) (bud : Int) (A : Pages) (va : Value) (xs : List S54) (p : S54) (vd : Value) : Prop where
  s : SSpace W' G sb bud A
  b : W'.heap[bx]? = some (.cells #[.bool true, va, .int .i64 0, .slice none 0 0] 48 (0, 0))
  r : W'.heap[w.heap.size]? = some (.cells #[.bool false, .slice none 0 0, .int .i64 0, .slice none 0 0] 48 (0, 0))
  a : Kd.S k54 54 W' (w.heap.size + 1) (fun k => (¬ G k ∧ k ≠ bx) ∧ ¬ (W.heap.size ≤ k ∧ ¬ G k)) va xs
  m : k54.M W' (w.heap.size + 1) (fun k => W.heap.size ≤ k ∧ ¬ G k) p [.int .i64 p.f0, vd]
  k : ∀ k, (W.heap.size ≤ k ∧ ¬ G k) → (¬ G k ∧ k ≠ bx) ∧ some k ≠ va.ownBlock
  t : Turn w W' (fun _ => False)
  f : ∀ k, G k → w.heap.size + 1 ≤ k ∧ k ≠ bx
  hb : w.heap.size + 1 ≤ bx
  z : bx < W'.heap.size
  gb : ∀ k, G k → k < W'.heap.size
theorem RunI.did (h : RunI w W F sb bx bud A va xs) (hz : w.heap.size + 1 ≤ W.heap.size) (hI : SSpace W' G sb bud A') (hG : ∀ k, G k → F k ∨ W.heap.size ≤ k) (hT : Turn W W' F) (hR : (Kd.int .u8).R 5 W' W.heap.size (fun k => ¬ G k) vd p.f1) :
    RunM w W W' F G sb bx bud A' va xs p vd := by
  have hbz := lt_of h.b
  have hnb : ¬ F bx := fun e => (h.f bx e).2 rfl
  have hnr : ¬ F w.heap.size := fun e => by have := (h.f _ e).1; omega
  refine ⟨hI, hT.blk hnb h.b, hT.blk hnr h.r, ?_, ?_, fun k hk => ⟨⟨hk.2, by omega⟩, fun e => ?_⟩, h.t.trans hT (fun k e => .inr (by have := (h.f k e).1; omega)), fun k hk => ?_, h.hb, by have := hT.size; omega, hI.bound⟩
  · refine Kd.S_mono (Kd.S_move (Kd.S_mono (Kd.S_bound h.a) (ok' := fun k => (¬ G k ∧ k ≠ bx) ∧ k < W.heap.size ∧ ¬ F k) (fun k hk => ?_)) (fun k hk => hT.block k hk.2.1 hk.2.2)) (fun k hk => ⟨hk.1, fun e => by omega⟩)
    have := hk.2.2.1
    refine ⟨⟨fun e => ?_, hk.1.2⟩, by omega, hk.1.1⟩
    rcases hG k e with h1 | h1
    · exact hk.1.1 h1
    · omega
  · refine k54_mkM W' (w.heap.size + 1) _ p ?_
    exact Kd.R_mono (Kd.R_lower (Kd.R_bound hR) (by omega)) (fun k hk => ⟨hk.2.1, hk.1⟩)
  · have := Kd.S_lt h.a k e.symm
    omega
  · rcases hG k hk with h1 | h1
    · exact h.f k h1
    · exact ⟨by omega, by omega⟩
theorem RunM.app (h : RunM w W W' F G sb bx bud A va xs p vd) (hS : Kd.S k54 54 W1 (w.heap.size + 1) (fun k => ¬ G k ∧ k ≠ bx) v1 (xs ++ [p])) (hg : W'.grownBy W1 va.ownBlock) :
    W1.heap[bx]? = some (.cells #[.bool true, va, .int .i64 0, .slice none 0 0] 48 (0, 0)) ∧ RunI w (W1.setCell ⟨bx, 1, none⟩ v1) G sb bx bud A v1 (xs ++ [p]) := by
  have hS0 := Kd.S_bound h.a
  have hok : ∀ b, va.ownBlock = some b → (¬ G b ∧ b ≠ bx) ∧ w.heap.size + 1 ≤ b := fun b e => ⟨((Kd.S_R hS0).1 b e).1.1, ((Kd.S_R hS0).1 b e).2.1⟩
  have hT := (Turn.refl W' (fun k => va.ownBlock = some k)).grown hg (fun b e => .inl e)
  have hb1 := hT.blk (fun e => (hok _ e).1.2 rfl) h.b
  refine ⟨hb1, ?_, bset hb1 1 _, set_other (hT.blk (fun e => by have := (hok _ e).2; omega) h.r) (by have := h.hb; intro e; simp only at e; omega) _, Kd.S_far hS (p := ⟨bx, 1, none⟩) (fun k hk => hk.2) _, ?_, h.f, h.hb⟩
  · exact h.s.turned (G := fun k => va.ownBlock = some k ∨ k = bx) ((hT.mono (fun k e => .inl (.inl e))).setCell (p := ⟨bx, 1, none⟩) (.inl (.inr rfl)) _) (fun k e hk => hk.elim (fun e2 => (hok k e2).1.1 e) (h.f k e).2)
  · exact (h.t.trans hT (fun k e => .inr (by have := (hok k e).2; omega))).setCell (p := ⟨bx, 1, none⟩) (.inr (by have := h.hb; show w.heap.size ≤ bx; omega)) _
end
/-- The end of RunSpace: the last field stored, the report copied into the result. -/
theorem rn_end {w W w5 : World} {F : Nat → Prop} {sb bx B : Nat} {bud cm : Int} {A : Pages} {va vo a0 a1 a2 a3 : Value} {xs : List S54} {op : List Int} (h : RunI w W F sb bx bud A va xs) (hT : Turn W w5 (fun k => k = bx)) (hB : W.heap.size ≤ B) (hR : (Kd.int .i64).R 3 w5 B (fun _ => True) vo op) :
    RnPost w true xs cm op (.returned (.agg #[.bool true, va, .int .i64 cm, vo])) (((((w5.setCell ⟨bx, 3, none⟩ vo).setCell ⟨w.heap.size, 0, none⟩ a0).setCell ⟨w.heap.size, 1, none⟩ a1).setCell ⟨w.heap.size, 2, none⟩ a2).setCell ⟨w.heap.size, 3, none⟩ a3) := by
  have hb := h.hb
  have hbz := lt_of h.b
  have hall : ∀ W0 : World, Turn W0 w5 (fun k => k = bx ∨ k = w.heap.size) → Turn W0 (((((w5.setCell ⟨bx, 3, none⟩ vo).setCell ⟨w.heap.size, 0, none⟩ a0).setCell ⟨w.heap.size, 1, none⟩ a1).setCell ⟨w.heap.size, 2, none⟩ a2).setCell ⟨w.heap.size, 3, none⟩ a3) (fun k => k = bx ∨ k = w.heap.size) := fun W0 h0 =>
    ((((h0.setCell (p := ⟨bx, 3, none⟩) (.inl (.inl rfl)) _).setCell (p := ⟨w.heap.size, 0, none⟩) (.inl (.inr rfl)) _).setCell (p := ⟨w.heap.size, 1, none⟩) (.inl (.inr rfl)) _).setCell (p := ⟨w.heap.size, 2, none⟩) (.inl (.inr rfl)) _).setCell (p := ⟨w.heap.size, 3, none⟩) (.inl (.inr rfl)) _
  have h5 := hall w5 (Turn.refl _ _)
  have hW := hall W (hT.mono (fun k e => .inl (.inl e)))
  refine ⟨_, _, W.heap.size, rfl, ?_, ?_, ?_⟩
  · refine Kd.S_lower (Kd.S_mono (Kd.S_move (Kd.S_bound h.a) (fun k hk => hW.block k hk.2.2.1 (fun e => ?_))) (fun k hk => hk.2.2.1)) (by omega : w.heap.size ≤ w.heap.size + 1)
    rcases e with e | e
    · exact hk.1.2 e
    · have := hk.2.1; omega
  · refine Kd.R_mono (Kd.R_lower (Kd.R_move (Kd.R_bound hR) (fun k hk => h5.block k hk.2.2.1 (fun e => ?_))) (by omega : w.heap.size ≤ B)) (fun k hk => by have := hk.2.1; omega)
    have := hk.2.1
    rcases e with e | e <;> omega
  · exact (h.t.trans hW (fun k e => .inr (by rcases e with e | e <;> omega))).below (Nat.le_refl _) (fun k e => e.elim)
set_option maxRecDepth 100000 in
set_option maxHeartbeats 4000000 in
theorem run_is (w : World) (pages budget : Int) (Ao : Option Addr) (co : Nat) (ops : List S52) (hp : IntKind.i64.wrap pages = pages) (hb : IntKind.i64.wrap budget = budget) (hops : Kd.C k52 w Ao ops.length ops) (hlen : ops.length ≤ co) (hco : (ops.length : Int) ≤ 9223372036854775807)
    (hf : ∀ o ∈ ops, 0 ≤ o.f3 ∧ o.f3 ≤ 18446744073709551615) :
    Calls Try.prog 24 #[.int .i64 pages, .int .i64 budget, .slice Ao ops.length co] w
      (RnPost w (runOK pages budget ops.length) (if runOK pages budget ops.length then runO budget pages.toNat ops ops.length else []) (if runOK pages budget ops.length then (onCount (runS budget pages.toNat ops ops.length) : Int) else 0) (if runOK pages budget ops.length then openL (runS budget pages.toNat ops ops.length) else [])) := by
  have HOps := Lib.hid hops
  have HF := Lib.hid hf
  clear hops hf
  cases hq : runOK pages budget ops.length with
  | false =>
    simp only [Bool.false_eq_true, if_false]
    have hq2 : ¬ (0 ≤ pages ∧ pages ≤ 4096 ∧ 0 ≤ budget ∧ ops.length ≤ 400) := by simpa [runOK] using hq
    go_enter Try.func24, Try.ntmps24
    go_wp2
    all_goals
      refine bodyPost_ret (v := .agg #[.bool false, .slice none 0 0, .int .i64 0, .slice none 0 0]) ?_ rfl (rn_no w)
      simp [results, Try.results24, go_sem]
  | true =>
    simp only [if_true]
    have hq2 : 0 ≤ pages ∧ pages ≤ 4096 ∧ 0 ≤ budget ∧ ops.length ≤ 400 := by simpa [runOK] using hq
    obtain ⟨h0, h1, h2, h3⟩ := hq2
    have b0 : decide (pages < 0) = false := by simp; omega
    have b1 : decide (4096 < pages) = false := by simp; omega
    have b2 : decide (budget < 0) = false := by simp; omega
    have b3 : decide ((400 : Int) < ops.length) = false := by simp; omega
    obtain ⟨r1, hr1⟩ : ∃ x, w.alloc (.cells #[.bool false, .slice none 0 0, .int .i64 0, .slice none 0 0] 48) = x := ⟨_, rfl⟩
    have hz1 : r1.heap.size = w.heap.size + 1 := by rw [← hr1]; simp
    have hc1 : r1.heap[w.heap.size]? = some (.cells #[.bool false, .slice none 0 0, .int .i64 0, .slice none 0 0] 48 (0, 0)) := by rw [← hr1]; exact alloc_new _ _
    have HT1 := Lib.hid (by rw [← hr1]; exact (Turn.refl w _).alloc _ : Turn w r1 (fun _ => False))
    have HC1 := Lib.hid hc1
    have HZ1 := Lib.hid hz1
    have HR1 := Lib.hid hr1
    have HN := Lib.hid (new_is r1 pages.toNat budget (by omega))
    rw [Int.toNat_of_nonneg h0] at HN
    have HQ := Lib.hid (And.intro h0 (And.intro h1 (And.intro h2 h3)))
    clear hz1 hc1 hr1 hq h0 h1 h2 h3
    go_enter Try.func24, Try.ntmps24
    go_wp2_with (rw [HR1.out]; go_at_call 45; refine HN.out.mono ?_; rintro e w2 ⟨sb, rfl, hS2, hT2⟩; have HS2 := Lib.hid hS2; have HT2 := Lib.hid hT2; clear hS2 hT2)
    obtain ⟨w3, hw3⟩ : ∃ x, w2.alloc (.cells #[.bool true, .slice none 0 0, .int .i64 0, .slice none 0 0] 48) = x := ⟨_, rfl⟩
    have hI0 : RunI w w3 (fun k => r1.heap.size ≤ k ∧ k < w2.heap.size) sb w2.heap.size budget (runS budget pages.toNat ops 0) (.slice none 0 0) (runO budget pages.toNat ops 0) := by
      have hz := HT2.out.size
      have hz1 := HZ1.out
      have hsb := HS2.out.turned (G := fun _ => False) ((Turn.refl w2 _).alloc (.cells #[.bool true, .slice none 0 0, .int .i64 0, .slice none 0 0] 48)) (fun _ _ e => e)
      rw [hw3] at hsb
      refine ⟨hsb, by rw [← hw3]; exact alloc_new _ _, by rw [← hw3]; exact alloc_old (HT2.out.blk (fun e => e) HC1.out) _, Kd.S_nil _ _ _ _ _, by rw [← hw3]; exact (HT1.out.trans HT2.out (fun k e => e.elim)).alloc _, fun k hk => ⟨by omega, by omega⟩, by omega⟩
    have HI0 := Lib.hid hI0
    have HB2 := Lib.hid (show w.heap.size + 1 ≤ w2.heap.size by have := HT2.out.size; have := HZ1.out; omega)
    rw [hw3]
    obtain ⟨bx, hbx⟩ : ∃ x, w2.heap.size = x := ⟨_, rfl⟩
    rw [hbx] at HI0 HB2 ⊢
    have HBX := Lib.hid hbx
    clear hw3 hI0 hbx
    go_loopw [33] (fun i W => ∃ j : Nat, i = .int .i64 j ∧ j ≤ ops.length ∧ ∃ F va, Hid (RunI w W F sb bx budget (runS budget pages.toNat ops j) va (runO budget pages.toNat ops j))) (fun i _ => ops.length - (intOf i).toNat)
    case atStart => exact ⟨0, rfl, Nat.zero_le _, _, _, HI0⟩
    case round =>
      clear HI0
      obtain ⟨j, rfl, hj, F, va, HR⟩ := hrel
      by_cases hlt : j < ops.length
      · obtain ⟨ad, A5, c5, hA, g0, g1, g2, g3, g4, g5, hl5, hd⟩ := at_T52 HOps.out j (by omega) (by omega)
        rw [Int.toNat_natCast] at g0 g1 g2 g3 g4 g5
        subst hA
        have hrd : rd_T52 ops (j : Int) = ops.getD j z52 := by unfold rd_T52; rw [Int.toNat_natCast]
        rw [hrd] at g0 g1 g2 g3 g4 g5 hl5 hd
        have hmem : ops.getD j z52 ∈ ops := by rw [List.getD_eq_getElem?_getD, List.getElem?_eq_getElem hlt]; exact List.getElem_mem hlt
        have hfa := HF.out _ hmem
        obtain ⟨o, ho⟩ : ∃ o, ops.getD j z52 = o := ⟨_, rfl⟩
        rw [ho] at g0 g1 g2 g3 g4 g5 hl5 hd hfa
        have HO := Lib.hid ho
        have HFA := Lib.hid hfa
        have HD := Lib.hid hd
        clear hfa hmem hrd ho hd
        have q0 := cell_turn HR.out.t g0
        have q1 := cell_turn HR.out.t g1
        have q2 := cell_turn HR.out.t g2
        have q3 := cell_turn HR.out.t g3
        have q4 := cell_turn HR.out.t g4
        have q5 := cell_turn HR.out.t g5
        clear g0 g1 g2 g3 g4 g5
        go_upto_region 8 with fail
        obtain ⟨wa, hwa⟩ : ∃ x, wr.alloc (.cells #[.int .i64 o.f0, .int .i64 o.f1, .int .i64 o.f2, .int .u64 o.f3, .int .i64 o.f4, .slice A5 o.f5.length c5] 52) = x := ⟨_, rfl⟩
        have hra := HR.out.alloc (.cells #[.int .i64 o.f0, .int .i64 o.f1, .int .i64 o.f2, .int .u64 o.f3, .int .i64 o.f4, .slice A5 o.f5.length c5] 52)
        have hta := alloc_new wr (.cells #[.int .i64 o.f0, .int .i64 o.f1, .int .i64 o.f2, .int .u64 o.f3, .int .i64 o.f4, .slice A5 o.f5.length c5] 52)
        rw [hwa] at hra hta ⊢
        obtain ⟨tb, htb⟩ : ∃ x, wr.heap.size = x := ⟨_, rfl⟩
        rw [htb] at hta ⊢
        obtain ⟨p, hpd⟩ : ∃ p, ansO budget (runS budget pages.toNat ops j) o = p := ⟨_, rfl⟩
        have hdo := SsO.do_is wa.drew o.f0 o.f1 o.f2 o.f3 o.f4 A5 c5 o.f5 (hra.drew).s HFA.out.1 HFA.out.2 (data_on HD.out hra.t.drew) (fun ad hA hn e => by have := C_lt HD.out ad hA hn; have := (hra.f _ e).1; omega)
        have e1 : doC budget (runS budget pages.toNat ops j) o.f0 o.f1 o.f2 o.f3 o.f4 o.f5 = p.f0 := by rw [← hpd]; rfl
        have e2 : doD (runS budget pages.toNat ops j) o.f0 o.f3 o.f4 = p.f1 := by rw [← hpd]; rfl
        have e3 : doA budget (runS budget pages.toNat ops j) o.f0 o.f1 o.f2 o.f3 o.f5 = runS budget pages.toNat ops (j + 1) := by rw [runS, HO.out]; rfl
        have e4 : runO budget pages.toNat ops j ++ [p] = runO budget pages.toNat ops (j + 1) := by rw [runO_succ, HO.out, hpd]
        rw [e1, e2, e3] at hdo
        have HDO := Lib.hid hdo
        have HE4 := Lib.hid e4
        have HRA := Lib.hid hra
        have hl4 := runO_len budget pages.toNat ops j
        obtain ⟨xs, hxs⟩ : ∃ xs, runO budget pages.toNat ops j = xs := ⟨_, rfl⟩
        rw [hxs] at HE4 HRA hl4
        have HL4 := Lib.hid (show (xs.length + 1) * 32 ≤ 140737488355328 by rw [hl4]; have := HQ.out.2.2.2; omega)
        have HLN := Lib.hid (show (xs ++ [p]).length = j + 1 by simp [hl4])
        have HZA := Lib.hid (show w.heap.size + 1 ≤ wa.heap.size by have := hra.hb; have := lt_of hra.b; omega)
        have k0 := bcell hta 0
        have k1 := bcell hta 1
        have k2 := bcell hta 2
        have k3 := bcell hta 3
        have k4 := bcell hta 4
        have k5 := bcell hta 5
        have k6 := bcell hra.b 1
        simp only [List.getElem?_toArray, List.getElem?_cons_succ, List.getElem?_cons_zero] at k0 k1 k2 k3 k4 k5 k6
        clear hwa hra hta htb hpd hdo e1 e2 e3 e4 hl4 hxs q0 q1 q2 q3 q4 q5
        go_region_law (first | (go_simp; go_at_call 46; refine HDO.out.mono ?_; rintro e w5 ⟨vd, G, rfl, hI, hG, hT, hRd⟩; have HM := Lib.hid (RunI.did (p := p) (HRA.out.drew) HZA.out hI hG hT hRd); have k7 := bcell HM.out.b 1; have k7b := bcell (alloc_old HM.out.b (Obj.cells #[.int .i64 p.f0, vd] 54)) 1; simp only [List.getElem?_toArray, List.getElem?_cons_succ, List.getElem?_cons_zero] at k7 k7b; clear hI hG hT hRd) | (refine Kd.S_append_step k54 (w0 := w5) (w.heap.size + 1) (by rfl) _ _ 46 54 (.agg #[.int .i64 0, .slice none 0 0]) 32 (by rfl) Try.underlying46 info54 rfl (by decide) (by omega) va xs p [.int .i64 p.f0, vd] (fun k => ¬ G k ∧ k ≠ bx) (fun k => wa.drew.heap.size ≤ k ∧ ¬ G k) (by rfl) (by rfl) HM.out.m ?aK ?aF HM.out.a ?aB ?aS HL4.out ?_; (case aK => exact HM.out.k); (case aF => exact fun k hk => ⟨fun e => by have := HM.out.gb k e; omega, fun e => by have := HM.out.z; omega⟩); (case aB => exact Below.refl _ _); (case aS => (have := HM.out.z; have := HM.out.hb; omega)); intro v1 w6 hS6 hB6 hg6 hat6; obtain ⟨A1, c1, hv1, _, _⟩ := Kd.S_reads hS6; rw [HLN.out] at hv1; subst hv1; have hAp := HM.out.app hS6 hg6; rw [HE4.out] at hAp; have HAP := Lib.hid hAp; have k8 := bcell HAP.out.1 1; have k9 := bfroz HAP.out.1 1; simp only [List.getElem?_toArray, List.getElem?_cons_succ, List.getElem?_cons_zero] at k8; clear hS6 hB6 hg6 hat6 hAp))
        all_goals
          obtain ⟨w7, hw7⟩ : ∃ x, (w6.setCell ⟨bx, 1, none⟩ (.slice A1 (j + 1) c1)) = x := ⟨_, rfl⟩
          have HL7 := Lib.hid HAP.out.2
          rw [hw7] at HL7 ⊢
          clear hw7 HAP k8 k9 k0 k1 k2 k3 k4 k5 k6 k7 k7b
          go_wp2_with fail
          go_roundw
          case rel => exact ⟨j + 1, by go_num, by omega, _, _, HL7⟩
          case measure => simp [intOf]; omega
      · obtain rfl : ops.length = j := by omega
        obtain ⟨A1, c1, rfl, hc1, _⟩ := Kd.S_reads HR.out.a
        rw [runO_len] at HR hc1
        obtain ⟨cm, hcm⟩ : ∃ x : Int, (onCount (runS budget pages.toNat ops ops.length) : Int) = x := ⟨_, rfl⟩
        have HCM := Lib.hid hcm
        clear hcm
        go_upto_region 11 with (go_at_call 47; refine (committed_is wr HR.out.s).mono ?_; rintro e w4 ⟨rfl, hT4⟩; rw [HCM.out]; have HT4 := Lib.hid hT4; have b4 := hT4.blk (fun e => e) HR.out.b; have k2 := bcell b4 2; have f2 := bfroz b4 2; simp only [List.getElem?_toArray, List.getElem?_cons_succ, List.getElem?_cons_zero] at k2; clear hT4 b4)
        have b5 := bset (HT4.out.blk (fun e => e) HR.out.b) 2 (.int .i64 cm)
        have hne : ∀ x y, w.heap.size ≠ (⟨bx, x, y⟩ : Addr).block := fun x y e => by have := HB2.out; simp only at e; omega
        have hTs : Turn wr (w4.setCell ⟨bx, 2, none⟩ (.int .i64 cm)) (fun k => k = bx) := Turn.setCell (F := fun k => k = bx) (HT4.out.mono (fun k e => e.elim)) (p := ⟨bx, 2, none⟩) (.inl rfl) _
        have hFb : ∀ k, F k → ¬ k = bx := fun k hk e => (HR.out.f k hk).2 e
        have hs5 := HR.out.s.turned hTs hFb
        have r5 := set_other (HT4.out.blk (fun e => e) HR.out.r) (hne 2 none) (.int .i64 cm)
        simp only [List.setIfInBounds_toArray, List.set_cons_zero, List.set_cons_succ] at b5
        obtain ⟨w5, hw5⟩ : ∃ x, w4.setCell ⟨bx, 2, none⟩ (.int .i64 cm) = x := ⟨_, rfl⟩
        rw [hw5] at b5 hTs hs5 r5 ⊢
        have B5 := Lib.hid b5
        have R5 := Lib.hid r5
        have HTS := Lib.hid hTs
        have HO := Lib.hid (opened_is w5 hs5)
        clear k2 f2 hw5 hs5 hTs hFb r5 b5
        go_upto_region 12 with (go_at_call 48; refine HO.out.mono ?_; rintro e w6 ⟨vo, rfl, hR6, hT6⟩; obtain ⟨A2, c2, rfl, _, _⟩ := Kd.R_reads hR6; have HR6 := Lib.hid hR6; have HT6 := Lib.hid hT6; have b6 := hT6.blk (fun e => e) B5.out; have k3 := bcell b6 3; have f3 := bfroz b6 3; simp only [List.getElem?_toArray, List.getElem?_cons_succ, List.getElem?_cons_zero] at k3; clear hR6 hT6 b6)
        have b7 := bset (HT6.out.blk (fun e => e) B5.out) 3 (.slice A2 (openL (runS budget pages.toNat ops ops.length)).length c2)
        have r7 := set_other (p := ⟨bx, 3, none⟩) (HT6.out.blk (fun e => e) R5.out) (hne 3 none) (.slice A2 (openL (runS budget pages.toNat ops ops.length)).length c2)
        have HE := Lib.hid (fun a0 a1 a2 a3 => rn_end (cm := cm) (a0 := a0) (a1 := a1) (a2 := a2) (a3 := a3) HR.out (HTS.out.trans HT6.out (fun k e => e.elim)) HTS.out.size HR6.out)
        obtain ⟨W7, hw7⟩ : ∃ x, (w6.setCell ⟨bx, 3, none⟩ (.slice A2 (openL (runS budget pages.toNat ops ops.length)).length c2)) = x := ⟨_, rfl⟩
        rw [hw7] at b7 r7 HE ⊢
        have q0 := bcell b7 0
        have q1 := bcell b7 1
        have q2 := bcell b7 2
        have q3 := bcell b7 3
        have s0 := bcell r7 0
        have s1 := bcell r7 1
        have s2 := bcell r7 2
        have s3 := bcell r7 3
        have z0 := bfroz r7 0
        have z1 := bfroz r7 1
        have z2 := bfroz r7 2
        have z3 := bfroz r7 3
        simp only [List.setIfInBounds_toArray, List.set_cons_zero, List.set_cons_succ, List.getElem?_toArray, List.getElem?_cons_succ, List.getElem?_cons_zero] at q0 q1 q2 q3 s0 s1 s2 s3
        have R6 := Lib.hid r7
        clear b7 hne hw7 k3 f3 r7
        go_wp2
        rw [HCM.out]
        refine bodyPost_ret (v := .agg #[.bool true, .slice A1 ops.length c1, .int .i64 cm, .slice A2 (openL (runS budget pages.toNat ops ops.length)).length c2]) ?_ rfl (HE.out _ _ _ _)
        have h3 := bset (bset (bset (bset R6.out 0 (.bool true)) 1 (.slice A1 ops.length c1)) 2 (.int .i64 cm)) 3 (.slice A2 (openL (runS budget pages.toNat ops ops.length)).length c2)
        have t0 := bcell h3 0
        have t1 := bcell h3 1
        have t2 := bcell h3 2
        have t3 := bcell h3 3
        simp only [List.setIfInBounds_toArray, List.set_cons_zero, List.set_cons_succ, List.getElem?_toArray, List.getElem?_cons_succ, List.getElem?_cons_zero] at t0 t1 t2 t3
        simp [results, Try.results24, go_sem, t0, t1, t2, t3]
end Go.Proofs.Ytklobepkihdbkaa.SsN2
