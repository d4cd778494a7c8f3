/- The law on WaitPush. -/
import Derived.Test.YtklobepkihdbkaaWpS
import Derived.Test.YtklobepkihdbkaaInS
import Derived.OpenShut
import Derived.Deep.RegionHeld3
import Derived.Deep.DeepCutAuto
import Derived.Deep.CutBlock
namespace Go.Proofs.Ytklobepkihdbkaa.WpL
open Go.RowKit Go.Proofs.Ytklobepkihdbkaa.PFnExactWaitPush Go.Proofs.YtklobepkihdbkaaW.PrintWords Go.Proofs.YtklobepkihdbkaaW.PrintLast Go.Proofs.YtklobepkihdbkaaW.PrintMore Wp WpG WpI WpJ
set_option linter.unusedVariables false
set_option linter.unusedSimpArgs false
theorem sz_is (mix fifo : List Int) (lim : Int) (h : mix.length ≤ 9223372036854775807) (h2 : fifo.length ≤ 9223372036854775807) : ∃ r, laws_szWaiting.f mix fifo lim 1048576 = some r ∧ (r < 0 ∨ (0 ≤ r ∧ mix.length ≤ 1048576 ∧ fifo.length ≤ 1048576)) := by
  unfold laws_szWaiting.f laws_szIntS.f
  have e1 : wrap64 ((1048576 : Int) - mix.length) = 1048576 - mix.length := by unfold wrap64; omega
  rw [e1]
  by_cases c : (1048576 : Int) - mix.length < 0
  · rw [if_pos c]
    exact ⟨-1, by simp, .inl (by omega)⟩
  · have e2 : wrap64 ((1048576 : Int) - mix.length - fifo.length) = 1048576 - mix.length - fifo.length := by unfold wrap64; omega
    rw [if_neg c, Option.bind_some, if_neg c, e2]
    by_cases c2 : (1048576 : Int) - mix.length - fifo.length < 0
    · rw [if_pos c2]
      exact ⟨-1, by simp, .inl (by omega)⟩
    · rw [if_neg c2, Option.bind_some, if_neg c2]
      exact ⟨_, rfl, .inr (by omega)⟩
theorem to_is (mix fifo : List Int) (lim : Int) (h : mix.length ≤ 1048576) (h2 : fifo.length ≤ 1048576) (k : Nat) (hk : mix.length + fifo.length < k) : laws_toWaiting.f k mix fifo lim = some (mix, fifo, lim) := by
  unfold laws_toWaiting.f
  rw [InS.to_is mix h k (by omega), Option.bind_some, InS.to_is fifo h2 k (by omega), Option.bind_some]
theorem eq_is (mix fifo : List Int) (lim : Int) (h : mix.length ≤ 1048576) (h2 : fifo.length ≤ 1048576) (k : Nat) (hk : mix.length + fifo.length < k) : laws_eqWaiting.f k mix fifo lim mix fifo lim = some true := by
  unfold laws_eqWaiting.f
  rw [InS.eq_is mix h k (by omega), Option.bind_some, if_pos rfl, InS.eq_is fifo h2 k (by omega), Option.bind_some, if_pos rfl, if_pos rfl]
theorem mark_is (mix fifo : List Int) (lim : Int) (h : mix.length ≤ 1048576) (h2 : fifo.length ≤ 1048576) (k : Nat) (hk : mix.length + fifo.length < k) : laws_markWaiting.f k mix fifo lim 1 = some (((1 + mix.length + fifo.length : Nat) : Int), InS.marks 1 mix.length, InS.marks (1 + mix.length) fifo.length) := by
  unfold laws_markWaiting.f
  rw [show (1 : Int) = ((1 : Nat) : Int) from rfl, InS.mark_is mix h 1 (by omega) k (by omega), Option.bind_some]
  rw [InS.mark_is fifo h2 (1 + mix.length) (by omega) k (by omega), Option.bind_some]
theorem held_is (n m : Nat) (lim : Int) (h : n ≤ 1048576) (h2 : m ≤ 1048576) (k : Nat) (hk : n + m < k) : laws_heldWaiting.f k (InS.marks 1 n) (InS.marks (1 + n) m) lim 1 = some ((1 + n + m : Nat) : Int) := by
  unfold laws_heldWaiting.f
  rw [show (1 : Int) = ((1 : Nat) : Int) from rfl, InS.held_is n h 1 (by omega) k (by omega), Option.bind_some, if_neg (by omega)]
  rw [InS.held_is m h2 (1 + n) (by omega) k (by omega), Option.bind_some, if_neg (by omega)]

def ans (mix fifo : List Int) (limit slot draw : Int) (r1 r2 : List Int) (lm out : Int) : Prop :=
  ((GoodW mix fifo limit ∧ 0 ≤ slot) ∧ r1 = mixed mix slot draw ∧ r2 = fifoTo fifo limit (mixOut mix slot draw) ∧ lm = limit ∧ out = fifoOut fifo limit (mixOut mix slot draw)) ∨ (¬ (GoodW mix fifo limit ∧ 0 ≤ slot) ∧ r1 = [] ∧ r2 = [] ∧ lm = 0 ∧ out = -1)
theorem two_nil {w w' : World} {e : Ending} (h : e = .returned (.tuple #[.agg #[.slice none 0 0, .slice none 0 0, .int .i64 0], .int .i64 (-1)]) ∧ Below w.heap.size w w') : Two w [] [] 0 (-1) e w' :=
  ⟨_, _, h.1, Kd.R_nil _ _ _ _ _, Kd.R_nil _ _ _ _ _, h.2⟩
theorem impl_is {Am Af : Option Addr} {cm cf : Nat} {mix fifo : List Int} {limit slot draw : Int} {r1 r2 : List Int} {lm out : Int} (w : World) (hm : (Kd.int .i64).C w Am mix.length mix) (hcm : mix.length ≤ cm) (hf : (Kd.int .i64).C w Af fifo.length fifo) (hcf : fifo.length ≤ cf) (hl : mix.length ≤ 1048576) (hl2 : fifo.length ≤ 1048576) (h : ans mix fifo limit slot draw r1 r2 lm out) :
    Calls Try.prog 11 #[.agg #[.slice Am mix.length cm, .slice Af fifo.length cf, .int .i64 limit], .int .i64 slot, .int .i64 draw] w (Two w r1 r2 lm out) := by
  rcases h with ⟨⟨hg, h0⟩, rfl, rfl, rfl, rfl⟩ | ⟨hg, rfl, rfl, rfl, rfl⟩
  · exact WpJ.push_good w hm hcm hf hcf hg h0
  · exact (WpJ.push_bad w hm hcm hf hcf hl hl2 hg).mono fun e w' h => two_nil h
theorem spec_is {Am Af : Option Addr} {cm cf : Nat} {mix fifo : List Int} {limit slot draw : Int} {r1 r2 : List Int} {lm out : Int} (w : World) (hm : (Kd.int .i64).C w Am mix.length mix) (hcm : mix.length ≤ cm) (hf : (Kd.int .i64).C w Af fifo.length fifo) (hcf : fifo.length ≤ cf) (hl : mix.length ≤ 1048576) (hl2 : fifo.length ≤ 1048576) (h : ans mix fifo limit slot draw r1 r2 lm out) :
    Calls Try.prog 9 #[.agg #[.slice Am mix.length cm, .slice Af fifo.length cf, .int .i64 limit], .int .i64 slot, .int .i64 draw] w (Two w r1 r2 lm out) := by
  rcases h with ⟨⟨hg, h0⟩, rfl, rfl, rfl, rfl⟩ | ⟨hg, rfl, rfl, rfl, rfl⟩
  · exact WpS.push_good w hm hcm hf hcf hg h0
  · exact (WpS.push_bad w hm hcm hf hcf hl hl2 hg).mono fun e w' h => two_nil h
/-- A row of integers whose own block is known. -/
theorem R_only {w0 w' : World} {B0 : Nat} {ok : Nat → Prop} {v : Value} {xs : List Int} (h : (Kd.int .i64).R 3 w' B0 ok v xs) (hle : w0.heap.size ≤ B0) : (Kd.int .i64).R 3 w' w0.heap.size (fun k => v.ownBlock = some k ∧ B0 ≤ k ∧ k < w'.heap.size) v xs := by
  have hb := Kd.R_bound h
  exact Kd.R_lower ⟨fun k hk => ⟨hk, (hb.1 k hk).2.1, (hb.1 k hk).2.2.1⟩, by obtain ⟨h0, inner, ho, hr⟩ := h; exact ⟨inner, ho, hr.imp_ (fun _ _ hp => hp)⟩⟩ hle
/-- Two rows of one answer: each reads, and their blocks differ. -/
structure Pair (w0 w' : World) (lo hi : Nat) (A1 : Option Addr) (n1 c1 : Nat) (l1 : List Int) (A2 : Option Addr) (n2 c2 : Nat) (l2 : List Int) : Prop where
  one : (Kd.int .i64).R 3 w' w0.heap.size (fun k => (Value.slice A1 n1 c1).ownBlock = some k ∧ lo ≤ k ∧ k < hi) (.slice A1 n1 c1) l1
  two : (Kd.int .i64).R 3 w' w0.heap.size (fun k => (Value.slice A2 n2 c2).ownBlock = some k ∧ lo ≤ k ∧ k < hi) (.slice A2 n2 c2) l2
  apart : ∀ k, (Value.slice A1 n1 c1).ownBlock = some k → (Value.slice A2 n2 c2).ownBlock = some k → False
theorem Pair.mk' {w0 w1 w' : World} {v1 v2 : Value} {l1 l2 : List Int} (h1 : (Kd.int .i64).R 3 w' w1.heap.size (fun k => some k ≠ v2.ownBlock) v1 l1) (h2 : (Kd.int .i64).R 3 w' w1.heap.size (fun k => some k ≠ v1.ownBlock) v2 l2) (hle : w0.heap.size ≤ w1.heap.size) :
    ∃ A1 c1 A2 c2, v1 = .slice A1 l1.length c1 ∧ v2 = .slice A2 l2.length c2 ∧ Pair w0 w' w1.heap.size w'.heap.size A1 l1.length c1 l1 A2 l2.length c2 l2 := by
  obtain ⟨A1, c1, rfl, hc1, hC1⟩ := Kd.R_reads h1
  obtain ⟨A2, c2, rfl, hc2, hC2⟩ := Kd.R_reads h2
  exact ⟨A1, c1, A2, c2, rfl, rfl, R_only h1 hle, R_only h2 hle, fun k e1 e2 => h1.1 k e1 e2.symm⟩
theorem Pair.below {w0 w' w2 : World} {lo hi : Nat} {A1 A2 : Option Addr} {n1 n2 c1 c2 : Nat} {l1 l2 : List Int} (h : Pair w0 w' lo hi A1 n1 c1 l1 A2 n2 c2 l2) (hb : Below w'.heap.size w' w2) : Pair w0 w2 lo hi A1 n1 c1 l1 A2 n2 c2 l2 :=
  ⟨Kd.R_below h.one hb, Kd.R_below h.two hb, h.apart⟩
theorem Pair.kept {w0 w' w2 : World} {lo hi : Nat} {A1 A2 : Option Addr} {n1 n2 c1 c2 : Nat} {l1 l2 : List Int} {S : Nat → Prop} (h : Pair w0 w' lo hi A1 n1 c1 l1 A2 n2 c2 l2) (hk : Kept w' w2 S) (hs : ∀ k, lo ≤ k → k < hi → ¬ S k) : Pair w0 w2 lo hi A1 n1 c1 l1 A2 n2 c2 l2 :=
  ⟨Kd.R_kept h.one hk (fun k hk h2 => hs k hk.2.1 hk.2.2 h2), Kd.R_kept h.two hk (fun k hk h2 => hs k hk.2.1 hk.2.2 h2), h.apart⟩
theorem Pair.excl {w0 w' : World} {lo hi : Nat} {A1 A2 : Option Addr} {n1 n2 c1 c2 : Nat} {l1 l2 : List Int} (h : Pair w0 w' lo hi A1 n1 c1 l1 A2 n2 c2 l2) : ∀ k, ((Value.slice A1 n1 c1).ownBlock = some k ∧ lo ≤ k ∧ k < hi) → ¬ ((Value.slice A2 n2 c2).ownBlock = some k ∧ lo ≤ k ∧ k < hi) := fun k h1 h2 => h.apart k h1.1 h2.1
theorem Pair.excl' {w0 w' : World} {lo hi : Nat} {A1 A2 : Option Addr} {n1 n2 c1 c2 : Nat} {l1 l2 : List Int} (h : Pair w0 w' lo hi A1 n1 c1 l1 A2 n2 c2 l2) : ∀ k, ((Value.slice A2 n2 c2).ownBlock = some k ∧ lo ≤ k ∧ k < hi) → ¬ ((Value.slice A1 n1 c1).ownBlock = some k ∧ lo ≤ k ∧ k < hi) := fun k h1 h2 => h.apart k h2.1 h1.1
theorem Pair.C1 {w0 w' : World} {lo hi : Nat} {A1 A2 : Option Addr} {n1 n2 c1 c2 : Nat} {l1 l2 : List Int} (h : Pair w0 w' lo hi A1 n1 c1 l1 A2 n2 c2 l2) : (Kd.int .i64).C w' A1 l1.length l1 := (Kd.R_reads' h.one).2.2
theorem Pair.C2 {w0 w' : World} {lo hi : Nat} {A1 A2 : Option Addr} {n1 n2 c1 c2 : Nat} {l1 l2 : List Int} (h : Pair w0 w' lo hi A1 n1 c1 l1 A2 n2 c2 l2) : (Kd.int .i64).C w' A2 l2.length l2 := (Kd.R_reads' h.two).2.2
theorem Pair.le1 {w0 w' : World} {lo hi : Nat} {A1 A2 : Option Addr} {n2 c1 c2 : Nat} {l1 l2 : List Int} (h : Pair w0 w' lo hi A1 l1.length c1 l1 A2 n2 c2 l2) : l1.length ≤ c1 := (Kd.R_reads' h.one).2.1
theorem Pair.le2 {w0 w' : World} {lo hi : Nat} {A1 A2 : Option Addr} {n1 c1 c2 : Nat} {l1 l2 : List Int} (h : Pair w0 w' lo hi A1 n1 c1 l1 A2 l2.length c2 l2) : l2.length ≤ c2 := (Kd.R_reads' h.two).2.1
theorem cells3 {w : World} {b : Nat} {x y z : Value} {t : Nat} (h : w.heap[b]? = some (.cells #[x, y, z] t (0, 0))) : w.cell? ⟨b, 0, none⟩ = some x ∧ w.cell? ⟨b, 1, none⟩ = some y ∧ w.cell? ⟨b, 2, none⟩ = some z := ⟨blk_cell h 0, blk_cell h 1, blk_cell h 2⟩
set_option maxHeartbeats 4000000 in
theorem waitPush_law {w : World} (Am : Option Addr) (cm : Nat) (mix : List Int) (Af : Option Addr) (cf : Nat) (fifo : List Int) (limit slot draw : Int) (hm : (Kd.int .i64).C w Am mix.length mix) (hcm : mix.length ≤ cm) (hwm : ∀ x ∈ mix, (Lit.int .i64 x).wf = true) (hy : mix.length ≤ 9223372036854775807) (hf : (Kd.int .i64).C w Af fifo.length fifo) (hcf : fifo.length ≤ cf) (hwf : ∀ x ∈ fifo, (Lit.int .i64 x).wf = true) (hy2 : fifo.length ≤ 9223372036854775807) (wl : (Lit.int .i64 limit).wf = true) (ws : (Lit.int .i64 slot).wf = true) (wd : (Lit.int .i64 draw).wf = true) :
    Calls Try.prog 3 #[.agg #[.slice Am mix.length cm, .slice Af fifo.length cf, .int .i64 limit], .int .i64 slot, .int .i64 draw] w fun e w' => e = .returned (.bool true) ∧ Below w.heap.size w w' := by
  obtain ⟨sz, hsz, hszb⟩ := sz_is mix fifo limit hy hy2
  have HM := Lib.hid hm
  have HF := Lib.hid hf
  have HSZ := Lib.hid hsz
  clear hm hf hsz hwm hwf wl ws wd
  go_enter Try.func3, Try.ntmps3
  go_wp2_with fail
  refine (laws_szWaiting.calls Am cm mix Af cf fifo limit _ sz _ (Kd.C_alloc HM.out _) hcm (Kd.C_alloc HF.out _) hcf HSZ.out).mono ?_
  rintro e w1 ⟨rfl, hw1⟩
  have hB1 : Below w.heap.size w w1 := (balloc (Below.refl _ _) _).trans (hw1.mono (by simp))
  have ha1 : w1.heap[w.heap.size]? = some (.cells #[.slice Am mix.length cm, .slice Af fifo.length cf, .int .i64 limit] 24 (0, 0)) := (hw1.block _ (by simp)).trans (heap_alloc_new w _)
  have hz1 : w.heap.size + 1 ≤ w1.heap.size := by have := hw1.size; simp at this; omega
  have HA1 := Lib.hid ha1
  have HB1 := Lib.hid hB1
  clear hw1 hB1 ha1
  rcases hszb with hneg | ⟨hpos, hl1, hl2⟩
  · go_wp2
    go_ret
    exact ⟨rfl, HB1.out⟩
  have hnn : ¬ sz < 0 := by omega
  obtain ⟨r1, r2, lm, out, hans, hr1, hr2⟩ : ∃ r1 r2 lm out, ans mix fifo limit slot draw r1 r2 lm out ∧ r1.length ≤ 1048576 ∧ r2.length ≤ 1048576 := by
    by_cases h : GoodW mix fifo limit ∧ 0 ≤ slot
    · have hg2 := good_step h.1 h.2 draw
      have := hg2.mixLen
      have := hg2.fifoLen
      have := hg2.limHi
      exact ⟨_, _, _, _, .inl ⟨h, rfl, rfl, rfl, rfl⟩, by omega, by omega⟩
    · exact ⟨_, _, _, _, .inr ⟨h, rfl, rfl, rfl, rfl⟩, by simp, by simp⟩
  have HS := Lib.hid hans
  have HT := Lib.hid (to_is mix fifo limit hl1 hl2 (mix.length + fifo.length + 1) (Nat.lt_succ_self _))
  have HE := Lib.hid (eq_is mix fifo limit hl1 hl2 (mix.length + fifo.length + 1) (Nat.lt_succ_self _))
  have HEr := Lib.hid (eq_is r1 r2 lm hr1 hr2 (r1.length + r2.length + 1) (Nat.lt_succ_self _))
  obtain ⟨kx, hkx, HMk⟩ : ∃ q : Int, 0 ≤ q ∧ Hid (laws_markWaiting.f (mix.length + fifo.length + 1) mix fifo limit 1 = some (q, InS.marks 1 mix.length, InS.marks (1 + mix.length) fifo.length)) :=
    ⟨_, by omega, mark_is mix fifo limit hl1 hl2 _ (Nat.lt_succ_self _)⟩
  obtain ⟨kr, ms1, ms2, hkr, HMr, HHr, hms1, hms2⟩ : ∃ (q : Int) (ms1 ms2 : List Int), 0 ≤ q ∧ Hid (laws_markWaiting.f (r1.length + r2.length + 1) r1 r2 lm 1 = some (q, ms1, ms2)) ∧ Hid (laws_heldWaiting.f (r1.length + r2.length + 1) ms1 ms2 lm 1 = some q) ∧ ms1.length = r1.length ∧ ms2.length = r2.length :=
    ⟨_, _, _, by omega, mark_is r1 r2 lm hr1 hr2 _ (Nat.lt_succ_self _), held_is r1.length r2.length lm hr1 hr2 _ (Nat.lt_succ_self _), InS.marks_len _ _, InS.marks_len _ _⟩
  clear hans hy hy2
  -- w0, w1 := spec.WaitPush(toWaiting(aW), ..)
  have ⟨k0, k1, k2⟩ := cells3 HA1.out
  go_wp2_with fail
  refine (laws_toWaiting.calls _ Am cm mix Af cf fifo limit _ _ _ _ (Kd.C_below HM.out HB1.out) hcm (Kd.C_below HF.out HB1.out) hcf HT.out).mono ?_
  rintro e w2 ⟨v1, v2, rfl, hR1, hR2, hw⟩
  clear k0 k1 k2
  obtain ⟨At1, ct1, At2, ct2, rfl, rfl, hP⟩ := Pair.mk' (w0 := w) hR1 hR2 HB1.out.size
  have Ht2 := Lib.hid hP
  have HA2 := Lib.hid ((hw.block _ (blk_lt HA1.out)).trans HA1.out)
  have HB2 := Lib.hid (bstep HB1.out hw)
  have hz2 := hw.size
  clear hR1 hR2 hP hw
  clear HA1 HB1
  go_wp2_with fail
  refine (spec_is w2 Ht2.out.C1 Ht2.out.le1 Ht2.out.C2 Ht2.out.le2 hl1 hl2 HS.out).mono ?_
  rintro e w3 ⟨v1, v2, rfl, hR1, hR2, hw⟩
  obtain ⟨Aw1, cw1, Aw2, cw2, rfl, rfl, hP⟩ := Pair.mk' (w0 := w) hR1 hR2 HB2.out.size
  have Hw3 := Lib.hid hP
  have HA3 := Lib.hid ((hw.block _ (blk_lt HA2.out)).trans HA2.out)
  have Ht3 := Lib.hid (Ht2.out.below hw)
  have HB3 := Lib.hid (bstep HB2.out hw)
  have hz3 := hw.size
  clear hR1 hR2 hP hw
  clear HA2 Ht2 HB2
  have hbox := ()
  clear hbox
  have ⟨k0, k1, k2⟩ := cells3 (alloc_old HA3.out (.cells #[.slice Aw1 r1.length cw1, .slice Aw2 r2.length cw2, .int .i64 lm] 26))
  go_wp2_with fail
  clear k0 k1 k2
  obtain ⟨gw, hgw⟩ : ∃ g, w3.heap.size = g := ⟨_, rfl⟩
  obtain ⟨w4, hw4⟩ : ∃ x, w3.alloc (.cells #[.slice Aw1 r1.length cw1, .slice Aw2 r2.length cw2, .int .i64 lm] 26) = x := ⟨_, rfl⟩
  have HW4 := Lib.hid (show w4.heap[gw]? = some (.cells #[.slice Aw1 r1.length cw1, .slice Aw2 r2.length cw2, .int .i64 lm] 26 (0, 0)) by rw [← hw4, ← hgw]; exact heap_alloc_new w3 _)
  have HA4 := Lib.hid (by have h := alloc_old HA3.out (.cells #[.slice Aw1 r1.length cw1, .slice Aw2 r2.length cw2, .int .i64 lm] 26); rw [hw4] at h; exact h)
  have Hw4 := Lib.hid (by have h := Hw3.out.below (below_alloc (Below.refl _ _) (.cells #[.slice Aw1 r1.length cw1, .slice Aw2 r2.length cw2, .int .i64 lm] 26)); rw [hw4] at h; exact h)
  have HB4 := Lib.hid (show Below w.heap.size w w4 by rw [← hw4]; exact balloc HB3.out _)
  have hz4 : w4.heap.size = gw + 1 := by rw [← hw4, ← hgw]; simp
  rw [hw4, hgw]
  clear HA3 Hw3 HB3
  refine (laws_toWaiting.calls _ Am cm mix Af cf fifo limit _ _ _ _ (Kd.C_below HM.out HB4.out) hcm (Kd.C_below HF.out HB4.out) hcf HT.out).mono ?_
  rintro e w5 ⟨v1, v2, rfl, hR1, hR2, hw⟩
  obtain ⟨Ax1, cx1, Ax2, cx2, rfl, rfl, hP⟩ := Pair.mk' (w0 := w) hR1 hR2 HB4.out.size
  have Hx5 := Lib.hid hP
  have HA5 := Lib.hid ((hw.block _ (blk_lt HA4.out)).trans HA4.out)
  have HW5 := Lib.hid ((hw.block _ (blk_lt HW4.out)).trans HW4.out)
  have Hw5 := Lib.hid (Hw4.out.below hw)
  have HB5 := Lib.hid (bstep HB4.out hw)
  have hz5 := hw.size
  clear hR1 hR2 hP hw
  clear HA4 HW4 Hw4 HB4
  go_wp2_with fail
  obtain ⟨gx, hgx⟩ : ∃ g, w5.heap.size = g := ⟨_, rfl⟩
  obtain ⟨w6, hw6⟩ : ∃ x, w5.alloc (.cells #[.slice Ax1 mix.length cx1, .slice Ax2 fifo.length cx2, .int .i64 limit] 26) = x := ⟨_, rfl⟩
  have HX6 := Lib.hid (show w6.heap[gx]? = some (.cells #[.slice Ax1 mix.length cx1, .slice Ax2 fifo.length cx2, .int .i64 limit] 26 (0, 0)) by rw [← hw6, ← hgx]; exact heap_alloc_new w5 _)
  have HA6 := Lib.hid (by have h := alloc_old HA5.out (.cells #[.slice Ax1 mix.length cx1, .slice Ax2 fifo.length cx2, .int .i64 limit] 26); rw [hw6] at h; exact h)
  have HW6 := Lib.hid (by have h := alloc_old HW5.out (.cells #[.slice Ax1 mix.length cx1, .slice Ax2 fifo.length cx2, .int .i64 limit] 26); rw [hw6] at h; exact h)
  have Hw6 := Lib.hid (by have h := Hw5.out.below (below_alloc (Below.refl _ _) (.cells #[.slice Ax1 mix.length cx1, .slice Ax2 fifo.length cx2, .int .i64 limit] 26)); rw [hw6] at h; exact h)
  have Hx6 := Lib.hid (by have h := Hx5.out.below (below_alloc (Below.refl _ _) (.cells #[.slice Ax1 mix.length cx1, .slice Ax2 fifo.length cx2, .int .i64 limit] 26)); rw [hw6] at h; exact h)
  have HB6 := Lib.hid (show Below w.heap.size w w6 by rw [← hw6]; exact balloc HB5.out _)
  have hz6 : w6.heap.size = gx + 1 := by rw [← hw6, ← hgx]; simp
  rw [hw6, hgx]
  clear HA5 HW5 Hw5 Hx5 HB5
  refine (impl_is w6 Hx6.out.C1 Hx6.out.le1 Hx6.out.C2 Hx6.out.le2 hl1 hl2 HS.out).mono ?_
  rintro e w7 ⟨v1, v2, rfl, hR1, hR2, hw⟩
  obtain ⟨Ag1, cg1, Ag2, cg2, rfl, rfl, hP⟩ := Pair.mk' (w0 := w) hR1 hR2 HB6.out.size
  have Hg7 := Lib.hid hP
  have HA7 := Lib.hid ((hw.block _ (blk_lt HA6.out)).trans HA6.out)
  have HW7 := Lib.hid ((hw.block _ (blk_lt HW6.out)).trans HW6.out)
  have HX7 := Lib.hid ((hw.block _ (blk_lt HX6.out)).trans HX6.out)
  have Hw7 := Lib.hid (Hw6.out.below hw)
  have Hx7 := Lib.hid (Hx6.out.below hw)
  have HB7 := Lib.hid (bstep HB6.out hw)
  have hz7 := hw.size
  clear hR1 hR2 hP hw
  clear HA6 HW6 HX6 Hw6 Hx6 HB6
  have ⟨k0, k1, k2⟩ := cells3 (alloc_old HW7.out (.cells #[.slice Ag1 r1.length cg1, .slice Ag2 r2.length cg2, .int .i64 lm] 26))
  go_wp2_with fail
  clear k0 k1 k2
  obtain ⟨gg, hgg⟩ : ∃ g, w7.heap.size = g := ⟨_, rfl⟩
  obtain ⟨w8, hw8⟩ : ∃ x, w7.alloc (.cells #[.slice Ag1 r1.length cg1, .slice Ag2 r2.length cg2, .int .i64 lm] 26) = x := ⟨_, rfl⟩
  have HG8 := Lib.hid (show w8.heap[gg]? = some (.cells #[.slice Ag1 r1.length cg1, .slice Ag2 r2.length cg2, .int .i64 lm] 26 (0, 0)) by rw [← hw8, ← hgg]; exact heap_alloc_new w7 _)
  have HA8 := Lib.hid (by have h := alloc_old HA7.out (.cells #[.slice Ag1 r1.length cg1, .slice Ag2 r2.length cg2, .int .i64 lm] 26); rw [hw8] at h; exact h)
  have HW8 := Lib.hid (by have h := alloc_old HW7.out (.cells #[.slice Ag1 r1.length cg1, .slice Ag2 r2.length cg2, .int .i64 lm] 26); rw [hw8] at h; exact h)
  have HX8 := Lib.hid (by have h := alloc_old HX7.out (.cells #[.slice Ag1 r1.length cg1, .slice Ag2 r2.length cg2, .int .i64 lm] 26); rw [hw8] at h; exact h)
  have Hw8 := Lib.hid (by have h := Hw7.out.below (below_alloc (Below.refl _ _) (.cells #[.slice Ag1 r1.length cg1, .slice Ag2 r2.length cg2, .int .i64 lm] 26)); rw [hw8] at h; exact h)
  have Hx8 := Lib.hid (by have h := Hx7.out.below (below_alloc (Below.refl _ _) (.cells #[.slice Ag1 r1.length cg1, .slice Ag2 r2.length cg2, .int .i64 lm] 26)); rw [hw8] at h; exact h)
  have Hg8 := Lib.hid (by have h := Hg7.out.below (below_alloc (Below.refl _ _) (.cells #[.slice Ag1 r1.length cg1, .slice Ag2 r2.length cg2, .int .i64 lm] 26)); rw [hw8] at h; exact h)
  have HB8 := Lib.hid (show Below w.heap.size w w8 by rw [← hw8]; exact balloc HB7.out _)
  have hz8 : w8.heap.size = gg + 1 := by rw [← hw8, ← hgg]; simp
  rw [hw8, hgg]
  clear HA7 HW7 HX7 Hw7 Hx7 Hg7 HB7
  refine (laws_eqWaiting.calls _ Ag1 cg1 r1 Ag2 cg2 r2 lm Aw1 cw1 r1 Aw2 cw2 r2 lm true w8 Hg8.out.C1 Hg8.out.le1 Hg8.out.C2 Hg8.out.le2 Hw8.out.C1 Hw8.out.le1 Hw8.out.C2 Hw8.out.le2 HEr.out).mono ?_
  rintro e w9 ⟨rfl, hw⟩
  have HA9 := Lib.hid ((hw.block _ (blk_lt HA8.out)).trans HA8.out)
  have HW9 := Lib.hid ((hw.block _ (blk_lt HW8.out)).trans HW8.out)
  have HX9 := Lib.hid ((hw.block _ (blk_lt HX8.out)).trans HX8.out)
  have HG9 := Lib.hid ((hw.block _ (blk_lt HG8.out)).trans HG8.out)
  have Hw9 := Lib.hid (Hw8.out.below hw)
  have Hx9 := Lib.hid (Hx8.out.below hw)
  have Hg9 := Lib.hid (Hg8.out.below hw)
  have HB9 := Lib.hid (bstep HB8.out hw)
  have hz9 := hw.size
  clear hw
  clear HA8 HW8 HX8 HG8 Hw8 Hx8 Hg8 HB8
  have hbb : (out != out) = false := by simp
  have ⟨k0, k1, k2⟩ := cells3 HA9.out
  have ⟨k3, k4, k5⟩ := cells3 HX9.out
  go_upto_region 10 with fail
  go_region_held3 (fun w' => w'.cell? ⟨w.heap.size, 0, none⟩ = some (.slice Am mix.length cm) ∧ w'.cell? ⟨w.heap.size, 1, none⟩ = some (.slice Af fifo.length cf) ∧ w'.cell? ⟨w.heap.size, 2, none⟩ = some (.int .i64 limit) ∧ w'.cell? ⟨gx, 0, none⟩ = some (.slice Ax1 mix.length cx1) ∧ w'.cell? ⟨gx, 1, none⟩ = some (.slice Ax2 fifo.length cx2) ∧ w'.cell? ⟨gx, 2, none⟩ = some (.int .i64 limit)) (first | go_keep | (exact ⟨(cell_kept k0 hk (fun h => h.elim)), (cell_kept k1 hk (fun h => h.elim)), (cell_kept k2 hk (fun h => h.elim)), (cell_kept k3 hk (fun h => h.elim)), (cell_kept k4 hk (fun h => h.elim)), (cell_kept k5 hk (fun h => h.elim))⟩)) (first | (go_at_call 10; refine (laws_toWaiting.calls _ Am cm mix Af cf fifo limit _ _ _ _ (Kd.C_drew (Kd.C_below HM.out HB9.out)) hcm (Kd.C_drew (Kd.C_below HF.out HB9.out)) hcf HT.out).mono ?_; rintro e wt ⟨v1, v2, rfl, hR1, hR2, hw⟩; obtain ⟨At1, ct1, At2, ct2, rfl, rfl, hP⟩ := Pair.mk' (w0 := w) (w1 := w9) hR1 hR2 HB9.out.size; have HPt := Lib.hid hP; have hw' : Below w9.heap.size w9 wt := (below_drew (Below.refl _ _)).trans hw; have hk := Kept.of_below hw' (fun _ => False); clear hR1 hR2 hP hw) | (go_at_call 12; refine (laws_eqWaiting.calls _ Ax1 cx1 mix Ax2 cx2 fifo limit At1 ct1 mix At2 ct2 fifo limit true wt (Hx9.out.below hw').C1 (Hx9.out.below hw').le1 (Hx9.out.below hw').C2 (Hx9.out.below hw').le2 HPt.out.C1 HPt.out.le1 HPt.out.C2 HPt.out.le2 HE.out).mono ?_; rintro e w10 ⟨rfl, hu⟩; have hu' := bstep hw' hu; have hk := Kept.of_below hu' (fun _ => False)))
  clear HPt hw' hu
  clear k0 k1 k2 k3 k4 k5
  have HA10 := Lib.hid ((hu'.block _ (blk_lt HA9.out)).trans HA9.out)
  have HW10 := Lib.hid ((hu'.block _ (blk_lt HW9.out)).trans HW9.out)
  have HX10 := Lib.hid ((hu'.block _ (blk_lt HX9.out)).trans HX9.out)
  have HG10 := Lib.hid ((hu'.block _ (blk_lt HG9.out)).trans HG9.out)
  have Hw10 := Lib.hid (Hw9.out.below hu')
  have Hx10 := Lib.hid (Hx9.out.below hu')
  have Hg10 := Lib.hid (Hg9.out.below hu')
  have HB10 := Lib.hid (bstep HB9.out hu')
  have hz10 := hu'.size
  clear hu'
  clear HA9 HW9 HX9 HG9 Hw9 Hx9 Hg9 HB9
  have ⟨k0, k1, k2⟩ := cells3 HX10.out
  go_wp2_with fail
  clear k0 k1 k2
  refine (laws_markWaiting.calls _ _ _ mix _ _ fifo limit 1 _ _ _ w w10 HB10.out Hx10.out.one Hx10.out.excl Hx10.out.two Hx10.out.excl' HMk.out).mono ?_
  rintro e w11 ⟨rfl, hR1, hR2, hB, hk⟩
  have HA11 := Lib.hid (blk_kept HA10.out hk (fun hk => by omega))
  have HW11 := Lib.hid (blk_kept HW10.out hk (fun hk => by omega))
  have HX11 := Lib.hid (blk_kept HX10.out hk (fun hk => by omega))
  have HG11 := Lib.hid (blk_kept HG10.out hk (fun hk => by omega))
  have Hw11 := Lib.hid (Hw10.out.kept hk (fun k hk1 hk2 hk => by omega))
  have Hg11 := Lib.hid (Hg10.out.kept hk (fun k hk1 hk2 hk => by omega))
  have HB11 := Lib.hid hB
  have hz11 := hk.1
  clear hB hk
  clear HA10 HW10 HX10 HG10 Hw10 Hx10 Hg10 HB10
  clear hR1 hR2
  have hkn : ¬ kx < 0 := by omega
  have ⟨k0, k1, k2⟩ := cells3 HG11.out
  have ⟨k3, k4, k5⟩ := cells3 HW11.out
  go_wp2_with fail
  clear k0 k1 k2 k3 k4 k5
  refine (laws_eqWaiting.calls _ Ag1 cg1 r1 Ag2 cg2 r2 lm Aw1 cw1 r1 Aw2 cw2 r2 lm true w11 Hg11.out.C1 Hg11.out.le1 Hg11.out.C2 Hg11.out.le2 Hw11.out.C1 Hw11.out.le1 Hw11.out.C2 Hw11.out.le2 HEr.out).mono ?_
  rintro e w12 ⟨rfl, hw⟩
  have HA12 := Lib.hid ((hw.block _ (blk_lt HA11.out)).trans HA11.out)
  have HW12 := Lib.hid ((hw.block _ (blk_lt HW11.out)).trans HW11.out)
  have HG12 := Lib.hid ((hw.block _ (blk_lt HG11.out)).trans HG11.out)
  have Hw12 := Lib.hid (Hw11.out.below hw)
  have Hg12 := Lib.hid (Hg11.out.below hw)
  have HB12 := Lib.hid (bstep HB11.out hw)
  have hz12 := hw.size
  clear hw
  clear HA11 HW11 HG11 Hw11 Hg11 HB11
  have ⟨k0, k1, k2⟩ := cells3 HG12.out
  go_wp2_with fail
  clear k0 k1 k2
  refine (laws_markWaiting.calls _ _ _ r1 _ _ r2 lm 1 _ _ _ w w12 HB12.out Hg12.out.one Hg12.out.excl Hg12.out.two Hg12.out.excl' HMr.out).mono ?_
  rintro e w13 ⟨rfl, hR1, hR2, hB, hk⟩
  have HA13 := Lib.hid (blk_kept HA12.out hk (fun hk => by omega))
  have HW13 := Lib.hid (blk_kept HW12.out hk (fun hk => by omega))
  have HG13 := Lib.hid (blk_kept HG12.out hk (fun hk => by omega))
  have Hw13 := Lib.hid (Hw12.out.kept hk (fun k hk1 hk2 hk => by omega))
  have HB13 := Lib.hid hB
  have hz13 := hk.1
  clear hB hk
  clear HA12 HW12 HG12 Hw12 Hg12 HB12
  have hC1 := Kd.R_reads' hR1
  have hC2 := Kd.R_reads' hR2
  have heldc : ∀ W, (Kd.int .i64).C W Ag1 ms1.length ms1 → (Kd.int .i64).C W Ag2 ms2.length ms2 → Calls Try.prog 14 #[.agg #[.slice Ag1 r1.length cg1, .slice Ag2 r2.length cg2, .int .i64 lm], .int .i64 1] W fun e w' => e = .returned (.int .i64 kr) ∧ Below W.heap.size W w' := fun W h1 h2 => by
    have := laws_heldWaiting.calls _ Ag1 cg1 ms1 Ag2 cg2 ms2 lm 1 _ W h1 (by rw [hms1]; exact hC1.2.1) h2 (by rw [hms2]; exact hC2.2.1) HHr.out
    rw [hms1, hms2] at this
    exact this
  have HC := Lib.hid heldc
  have HM13 := Lib.hid hC1.2.2
  have HN13 := Lib.hid hC2.2.2
  clear heldc hC1 hC2 hR1 hR2
  have hkr0 : ¬ kr < 0 := by omega
  have hkrq : (kr != kr) = false := by simp
  have ⟨k0, k1, k2⟩ := cells3 HG13.out
  go_wp2_with fail
  clear k0 k1 k2
  refine (HC.out w13 HM13.out HN13.out).mono ?_
  rintro e w14 ⟨rfl, hw⟩
  have HA14 := Lib.hid ((hw.block _ (blk_lt HA13.out)).trans HA13.out)
  have HW14 := Lib.hid ((hw.block _ (blk_lt HW13.out)).trans HW13.out)
  have HG14 := Lib.hid ((hw.block _ (blk_lt HG13.out)).trans HG13.out)
  have Hw14 := Lib.hid (Hw13.out.below hw)
  have HM14 := Lib.hid (Kd.C_below HM13.out hw)
  clear HM13
  have HN14 := Lib.hid (Kd.C_below HN13.out hw)
  clear HN13
  have HB14 := Lib.hid (bstep HB13.out hw)
  have hz14 := hw.size
  clear hw
  clear HA13 HW13 HG13 Hw13 HB13
  have ⟨k0, k1, k2⟩ := cells3 HA14.out
  go_wp2_with fail
  clear k0 k1 k2
  refine (laws_toWaiting.calls _ Am cm mix Af cf fifo limit _ _ _ _ (Kd.C_below HM.out HB14.out) hcm (Kd.C_below HF.out HB14.out) hcf HT.out).mono ?_
  rintro e w15 ⟨v1, v2, rfl, hR1, hR2, hw⟩
  obtain ⟨Ay1, cy1, Ay2, cy2, rfl, rfl, hP⟩ := Pair.mk' (w0 := w) hR1 hR2 HB14.out.size
  have Hy15 := Lib.hid hP
  have HA15 := Lib.hid ((hw.block _ (blk_lt HA14.out)).trans HA14.out)
  have HW15 := Lib.hid ((hw.block _ (blk_lt HW14.out)).trans HW14.out)
  have HG15 := Lib.hid ((hw.block _ (blk_lt HG14.out)).trans HG14.out)
  have Hw15 := Lib.hid (Hw14.out.below hw)
  have HM15 := Lib.hid (Kd.C_below HM14.out hw)
  clear HM14
  have HN15 := Lib.hid (Kd.C_below HN14.out hw)
  clear HN14
  have HB15 := Lib.hid (bstep HB14.out hw)
  have hz15 := hw.size
  clear hR1 hR2 hP hw
  clear HA14 HW14 HG14 Hw14 HB14
  go_wp2_with fail
  refine (impl_is w15 Hy15.out.C1 Hy15.out.le1 Hy15.out.C2 Hy15.out.le2 hl1 hl2 HS.out).mono ?_
  rintro e w16 ⟨v1, v2, rfl, hR1, hR2, hw⟩
  obtain ⟨Ah1, ch1, Ah2, ch2, rfl, rfl, hP⟩ := Pair.mk' (w0 := w) hR1 hR2 HB15.out.size
  have Hh16 := Lib.hid hP
  have HA16 := Lib.hid ((hw.block _ (blk_lt HA15.out)).trans HA15.out)
  have HW16 := Lib.hid ((hw.block _ (blk_lt HW15.out)).trans HW15.out)
  have HG16 := Lib.hid ((hw.block _ (blk_lt HG15.out)).trans HG15.out)
  have Hw16 := Lib.hid (Hw15.out.below hw)
  have Hy16 := Lib.hid (Hy15.out.below hw)
  have HM16 := Lib.hid (Kd.C_below HM15.out hw)
  clear HM15
  have HN16 := Lib.hid (Kd.C_below HN15.out hw)
  clear HN15
  have HB16 := Lib.hid (bstep HB15.out hw)
  have hz16 := hw.size
  clear hR1 hR2 hP hw
  clear HA15 HW15 HG15 Hw15 Hy15 HB15
  have ⟨k0, k1, k2⟩ := cells3 (alloc_old HW16.out (.cells #[.slice Ah1 r1.length ch1, .slice Ah2 r2.length ch2, .int .i64 lm] 26))
  go_wp2_with fail
  clear k0 k1 k2
  have HM17' := Lib.hid (Kd.C_alloc HM16.out (.cells #[.slice Ah1 r1.length ch1, .slice Ah2 r2.length ch2, .int .i64 lm] 26))
  have HN17' := Lib.hid (Kd.C_alloc HN16.out (.cells #[.slice Ah1 r1.length ch1, .slice Ah2 r2.length ch2, .int .i64 lm] 26))
  obtain ⟨gh, hgh⟩ : ∃ g, w16.heap.size = g := ⟨_, rfl⟩
  obtain ⟨w17, hw17⟩ : ∃ x, w16.alloc (.cells #[.slice Ah1 r1.length ch1, .slice Ah2 r2.length ch2, .int .i64 lm] 26) = x := ⟨_, rfl⟩
  have HH17 := Lib.hid (show w17.heap[gh]? = some (.cells #[.slice Ah1 r1.length ch1, .slice Ah2 r2.length ch2, .int .i64 lm] 26 (0, 0)) by rw [← hw17, ← hgh]; exact heap_alloc_new w16 _)
  have HA17 := Lib.hid (by have h := alloc_old HA16.out (.cells #[.slice Ah1 r1.length ch1, .slice Ah2 r2.length ch2, .int .i64 lm] 26); rw [hw17] at h; exact h)
  have HW17 := Lib.hid (by have h := alloc_old HW16.out (.cells #[.slice Ah1 r1.length ch1, .slice Ah2 r2.length ch2, .int .i64 lm] 26); rw [hw17] at h; exact h)
  have HG17 := Lib.hid (by have h := alloc_old HG16.out (.cells #[.slice Ah1 r1.length ch1, .slice Ah2 r2.length ch2, .int .i64 lm] 26); rw [hw17] at h; exact h)
  have Hw17 := Lib.hid (by have h := Hw16.out.below (below_alloc (Below.refl _ _) (.cells #[.slice Ah1 r1.length ch1, .slice Ah2 r2.length ch2, .int .i64 lm] 26)); rw [hw17] at h; exact h)
  have Hh17 := Lib.hid (by have h := Hh16.out.below (below_alloc (Below.refl _ _) (.cells #[.slice Ah1 r1.length ch1, .slice Ah2 r2.length ch2, .int .i64 lm] 26)); rw [hw17] at h; exact h)
  have HB17 := Lib.hid (show Below w.heap.size w w17 by rw [← hw17]; exact balloc HB16.out _)
  have hz17 : w17.heap.size = gh + 1 := by rw [← hw17, ← hgh]; simp
  rw [hw17, hgh]
  clear HA16 HW16 HG16 Hw16 Hh16 HB16
  have HM17 := Lib.hid (by have h := HM17'.out; rw [hw17] at h; exact h)
  have HN17 := Lib.hid (by have h := HN17'.out; rw [hw17] at h; exact h)
  clear HM17' HN17' HM16 HN16
  refine (laws_eqWaiting.calls _ Ah1 ch1 r1 Ah2 ch2 r2 lm Aw1 cw1 r1 Aw2 cw2 r2 lm true w17 Hh17.out.C1 Hh17.out.le1 Hh17.out.C2 Hh17.out.le2 Hw17.out.C1 Hw17.out.le1 Hw17.out.C2 Hw17.out.le2 HEr.out).mono ?_
  rintro e w18 ⟨rfl, hw⟩
  have HA18 := Lib.hid ((hw.block _ (blk_lt HA17.out)).trans HA17.out)
  have HW18 := Lib.hid ((hw.block _ (blk_lt HW17.out)).trans HW17.out)
  have HG18 := Lib.hid ((hw.block _ (blk_lt HG17.out)).trans HG17.out)
  have HH18 := Lib.hid ((hw.block _ (blk_lt HH17.out)).trans HH17.out)
  have Hw18 := Lib.hid (Hw17.out.below hw)
  have Hh18 := Lib.hid (Hh17.out.below hw)
  have HB18 := Lib.hid (bstep HB17.out hw)
  have hz18 := hw.size
  have HM18 := Lib.hid (Kd.C_below HM17.out hw)
  have HN18 := Lib.hid (Kd.C_below HN17.out hw)
  clear hw
  clear HA17 HW17 HG17 HH17 Hw17 Hh17 HB17
  have ⟨k0, k1, k2⟩ := cells3 HG18.out
  go_wp2_with fail
  clear k0 k1 k2
  refine (HC.out w18 HM18.out HN18.out).mono ?_
  rintro e w19 ⟨rfl, hw⟩
  have HA19 := Lib.hid ((hw.block _ (blk_lt HA18.out)).trans HA18.out)
  have HW19 := Lib.hid ((hw.block _ (blk_lt HW18.out)).trans HW18.out)
  have HG19 := Lib.hid ((hw.block _ (blk_lt HG18.out)).trans HG18.out)
  have HH19 := Lib.hid ((hw.block _ (blk_lt HH18.out)).trans HH18.out)
  have Hw19 := Lib.hid (Hw18.out.below hw)
  have Hh19 := Lib.hid (Hh18.out.below hw)
  have HM19 := Lib.hid (Kd.C_below HM18.out hw)
  clear HM18
  have HN19 := Lib.hid (Kd.C_below HN18.out hw)
  clear HN18
  have HB19 := Lib.hid (bstep HB18.out hw)
  have hz19 := hw.size
  clear hw
  clear HA18 HW18 HG18 HH18 Hw18 Hh18 HB18
  go_wp2
  go_ret
  exact ⟨rfl, HB19.out⟩
end Go.Proofs.Ytklobepkihdbkaa.WpL
