/- The law on RunSpace: its walk. -/
import Derived.Test.YtklobepkihdbkaaMrk
import Derived.Test.YtklobepkihdbkaaSsN2
namespace Go.Proofs.Ytklobepkihdbkaa.RsL
open Go.RowKit Go.MuLone Go.Proofs.YtklobepkihdbkaaW.PrintWords Go.Proofs.Ytklobepkihdbkaa.PFnExactRunSpace Go.Proofs.Ytklobepkihdbkaa.Ev Go.Proofs.Ytklobepkihdbkaa.RsP Mem SpI SpR Mrk Sp SpD SpO
set_option linter.unusedVariables false
set_option linter.unusedSimpArgs false
/-! ### what a run answers is small -/
theorem ldk_len (A : Pages) (a n : Int) : accessC A a n = 0 → (loadD A a n).length ≤ 4096 := by
  intro h
  have : n ≤ 4096 := by unfold accessC at h; split at h <;> omega
  have h2 : (loadD A a n).length = n.toNat := by simp [loadD]
  omega
theorem doD_len (A : Pages) (k a n : Int) : (doD A k a n).length ≤ 4096 := by
  unfold doD
  split
  · split
    · exact ldk_len A a n ‹_›
    · simp
  · simp
theorem runO_small (bud : Int) (n : Nat) (ops : List So) (j : Nat) : ∀ x ∈ runO bud n ops j, (x.f1.length : Int) ≤ 1048576 := by
  intro x hx
  unfold runO at hx
  obtain ⟨i, _, rfl⟩ := List.mem_map.1 hx
  have := doD_len (runS bud n ops i) (ops.getD i z52).f0 (ops.getD i z52).f3 (ops.getD i z52).f4
  show ((doD _ _ _ _).length : Int) ≤ 1048576
  omega
theorem lockA_len (A : Pages) (p c : Int) (o : Bool) : (lockA A p c o).length = A.length := by unfold lockA; split <;> simp [setR_len]
theorem step_len (bud : Int) (A : Pages) (o : So) : (stepA bud A o).length = A.length := by
  unfold stepA doA
  have h1 : ∀ p c, (commitA bud A p c).length = A.length := fun p c => by unfold commitA; split <;> simp [setR_len]
  have h2 : ∀ p c, (decommitA A p c).length = A.length := fun p c => by unfold decommitA; split <;> simp [setR_len]
  have h3 : ∀ a d, (storeA A a d).length = A.length := fun a d => by unfold storeA; split <;> simp [putAll_len]
  by_cases c0 : o.f0 = 0
  · rw [if_pos c0, h1]
  by_cases c1 : o.f0 = 1
  · rw [if_neg c0, if_pos c1, h2]
  by_cases c2 : o.f0 = 2
  · rw [if_neg c0, if_neg c1, if_pos c2, lockA_len]
  by_cases c3 : o.f0 = 3
  · rw [if_neg c0, if_neg c1, if_neg c2, if_pos c3, lockA_len]
  by_cases c5 : o.f0 = 5
  · rw [if_neg c0, if_neg c1, if_neg c2, if_neg c3, if_pos c5, h3]
  · rw [if_neg c0, if_neg c1, if_neg c2, if_neg c3, if_neg c5]
theorem runS_len (bud : Int) (n : Nat) (ops : List So) : ∀ j, (runS bud n ops j).length = n
  | 0 => List.length_replicate
  | j + 1 => by rw [runS, step_len, runS_len bud n ops j]
/-- A report's own rows lie from lo to hi, its box is block hi. -/
structure Rep (W : World) (lo B hi : Nat) (ok : Bool) (A1 : Option Addr) (c1 : Nat) (A2 : Option Addr) (c2 : Nat) (xs : List An) (cm : Int) (op : List Int) : Prop where
  lh : lo ≤ hi
  box : W.heap[hi]? = some (.cells #[.bool ok, .slice A1 xs.length c1, .int .i64 cm, .slice A2 op.length c2] 48 (0, 0))
  s : Kd.S k54 54 W lo (fun k => k < B ∧ k < hi) (.slice A1 xs.length c1) xs
  r : (Kd.int .i64).R 3 W lo (fun k => B ≤ k ∧ k < hi) (.slice A2 op.length c2) op
section
variable {W W' w w' : World} {lo B hi : Nat} {ok : Bool} {A1 A2 : Option Addr} {c1 c2 : Nat} {xs : List An} {cm : Int} {op : List Int} {F : Nat → Prop}
theorem Rep.kept (h : Rep W lo B hi ok A1 c1 A2 c2 xs cm op) (hk : Kept W W' F) (hF : ∀ k, F k → ¬ (lo ≤ k ∧ k ≤ hi)) : Rep W' lo B hi ok A1 c1 A2 c2 xs cm op :=
  ⟨h.lh, (hk.2 _ (lt_of h.box) (fun e => hF _ e ⟨h.lh, Nat.le_refl _⟩)).trans h.box,
   Kd.S_mono (Kd.S_move (Kd.S_bound h.s) (fun k hk2 => hk.2 k hk2.2.2.1 (fun e => hF k e ⟨hk2.2.1, by have := hk2.1.2; omega⟩))) (fun k hk2 => hk2.1),
   Kd.R_mono (Kd.R_move (Kd.R_bound h.r) (fun k hk2 => hk.2 k hk2.2.2.1 (fun e => hF k e ⟨hk2.2.1, by have := hk2.1.2; omega⟩))) (fun k hk2 => hk2.1)⟩
theorem Rep.below (h : Rep W lo B hi ok A1 c1 A2 c2 xs cm op) (hb : Below W.heap.size W W') : Rep W' lo B hi ok A1 c1 A2 c2 xs cm op := h.kept (Kept.of_below hb (fun _ => False)) (fun _ e => e.elim)
/-- What the helpers read of a report. -/
theorem Rep.reads (h : Rep W lo B hi ok A1 c1 A2 c2 xs cm op) : Kd.C k54 W A1 xs.length xs ∧ xs.length ≤ c1 ∧ (Kd.int .i64).C W A2 op.length op ∧ op.length ≤ c2 := by
  have h1 := Kd.S_reads' h.s
  have h2 := Kd.R_reads' h.r
  exact ⟨h1.2.2, h1.2.1, h2.2.2, h2.2.1⟩
theorem Rep.cells (h : Rep W lo B hi ok A1 c1 A2 c2 xs cm op) : W.cell? ⟨hi, 0, none⟩ = some (.bool ok) ∧ W.cell? ⟨hi, 1, none⟩ = some (.slice A1 xs.length c1) ∧ W.cell? ⟨hi, 2, none⟩ = some (.int .i64 cm) ∧ W.cell? ⟨hi, 3, none⟩ = some (.slice A2 op.length c2) :=
  ⟨bcell h.box 0, bcell h.box 1, bcell h.box 2, bcell h.box 3⟩
theorem rep_of {e : Ending} (h : RnPost w ok xs cm op e W) : ∃ B A1 c1 A2 c2, e = .returned (.agg #[.bool ok, .slice A1 xs.length c1, .int .i64 cm, .slice A2 op.length c2]) ∧ Below w.heap.size w W ∧
    Rep (W.alloc (.cells #[.bool ok, .slice A1 xs.length c1, .int .i64 cm, .slice A2 op.length c2] 48)) w.heap.size B W.heap.size ok A1 c1 A2 c2 xs cm op := by
  obtain ⟨va, vo, B, rfl, hS, hR, hB⟩ := h
  obtain ⟨A1, c1, rfl⟩ := Kd.S_slice hS
  obtain ⟨A2, c2, rfl⟩ := Kd.R_slice hR
  refine ⟨B, A1, c1, A2, c2, rfl, hB, hB.size, alloc_new _ _, Kd.S_alloc (Kd.S_mono (Kd.S_bound hS) (fun k hk => ⟨hk.1, hk.2.2.1⟩)) _, Kd.R_alloc (Kd.R_mono (Kd.R_bound hR) (fun k hk => ⟨hk.1, hk.2.2.1⟩)) _⟩
/-- An own row of operations that lies from lo to hi. -/
structure OpR (W : World) (lo hi : Nat) (v : Value) (xs : List So) : Prop where
  s : Kd.S k52 52 W lo (fun k => k < hi) v xs
theorem OpR.kept {v : Value} {xs : List So} (h : OpR W lo hi v xs) (hk : Kept W W' F) (hF : ∀ k, F k → ¬ (lo ≤ k ∧ k < hi)) : OpR W' lo hi v xs :=
  ⟨Kd.S_mono (Kd.S_move (Kd.S_bound h.s) (fun k hk2 => hk.2 k hk2.2.2.1 (fun e => hF k e ⟨hk2.2.1, hk2.1⟩))) (fun k hk2 => hk2.1)⟩
theorem OpR.below {v : Value} {xs : List So} (h : OpR W lo hi v xs) (hb : Below W.heap.size W W') : OpR W' lo hi v xs := h.kept (Kept.of_below hb (fun _ => False)) (fun _ e => e.elim)
theorem OpR.of {v : Value} {xs : List So} (h : Kd.S k52 52 W lo (fun _ => True) v xs) : OpR W lo W.heap.size v xs := ⟨Kd.S_mono (Kd.S_bound h) (fun k hk => hk.2.2.1)⟩
end
set_option maxRecDepth 100000 in
set_option maxHeartbeats 8000000 in
theorem law_is (w : World) (pages budget : Int) (Aa : Option Addr) (ca : Nat) (l : List Lo) (hp : IntKind.i64.wrap pages = pages) (hb : IntKind.i64.wrap budget = budget) (hC : Kd.C k100 w Aa l.length l) (hca : l.length ≤ ca) (hf : ∀ o ∈ l, 0 ≤ o.f3 ∧ o.f3 ≤ 18446744073709551615) :
    Calls Try.prog 7 #[.int .i64 pages, .int .i64 budget, .slice Aa l.length ca] w fun e w' => e = .returned (.bool true) ∧ Below w.heap.size w w' := by
  have hl0 : l.length ≤ 9223372036854775807 := hC.2.1
  have hli : ∀ x ∈ l, x.f5.length ≤ 9223372036854775807 := fun x hx => by
    obtain ⟨i, hi, rfl⟩ := List.getElem_of_mem hx
    obtain ⟨_, A5, c5, _, _, _, _, _, _, _, _, hi5⟩ := at_T100 hC (i : Int) (by omega) (by omega)
    have := hi5.2.1
    rw [rdL, List.getD_eq_getElem?_getD, List.getElem?_eq_getElem hi] at this
    simpa using this
  obtain ⟨r, hr, hr1, hr2, hr3⟩ := szOS_f l hl0 hli
  obtain ⟨Kz, hKz⟩ := Ev.rounds hr
  have HSZ := Lib.hid (laws_szSpaceOpS.calls Kz Aa ca l 1048576 r w hC hca hKz)
  have HR3 := Lib.hid hr3
  have HC := Lib.hid hC
  have HCA := Lib.hid hca
  have HF := Lib.hid hf
  have HP := Lib.hid hp
  have HBU := Lib.hid hb
  clear hl0 hli hr hr3 hKz hC hca hf hp hb
  by_cases c : r < 0
  · go_enter Try.func7, Try.ntmps7
    go_wp2_with (go_at_call 27; refine HSZ.out.mono ?_; rintro e w1 ⟨rfl, hB1⟩; have HB1 := Lib.hid hB1; clear hB1)
    go_ret
    exact ⟨rfl, HB1.out⟩
  · obtain ⟨hn, hni⟩ := HR3.out (by omega)
    have hto := toOS_f l (by omega) (fun x hx => by have := hni x hx; omega)
    obtain ⟨Kt, hKt⟩ := Ev.rounds hto
    have hTO : ∀ W, Below w.heap.size w W → Calls Try.prog 28 #[.slice Aa l.length ca] W fun e w' => ∃ v0_ : Value, e = .returned (v0_) ∧ Kd.S k52 52 w' W.heap.size (fun _ => True) v0_ (l.map conv) ∧ Below W.heap.size W w' := fun W hW => laws_toSpaceOpS.calls Kt Aa ca l (l.map conv) W (Kd.C_below HC.out hW) HCA.out hKt
    obtain ⟨ops, hops⟩ : ∃ x, l.map conv = x := ⟨_, rfl⟩
    have hol : ops.length = l.length := by rw [← hops]; simp
    have hof : ∀ o ∈ ops, 0 ≤ o.f3 ∧ o.f3 ≤ 18446744073709551615 := fun o ho => by
      rw [← hops] at ho
      obtain ⟨x, hx, rfl⟩ := List.mem_map.1 ho
      exact HF.out x hx
    have hoi : ∀ o ∈ ops, o.f5.length ≤ 1048576 := fun o ho => by
      rw [← hops] at ho
      obtain ⟨x, hx, rfl⟩ := List.mem_map.1 ho
      exact hni x hx
    rw [hops] at hTO
    have hsm : (if runOK pages budget ops.length then runO budget pages.toNat ops ops.length else []).length ≤ 4096 ∧ (∀ x ∈ (if runOK pages budget ops.length then runO budget pages.toNat ops ops.length else []), (x.f1.length : Int) ≤ 1048576) ∧ (if runOK pages budget ops.length then openL (runS budget pages.toNat ops ops.length) else []).length ≤ 4096 := by
      by_cases hq : runOK pages budget ops.length = true
      · rw [if_pos hq, if_pos hq]
        have hq2 : 0 ≤ pages ∧ pages ≤ 4096 ∧ 0 ≤ budget ∧ ops.length ≤ 400 := by simpa [runOK] using hq
        refine ⟨by rw [runO_len]; omega, runO_small _ _ _ _, ?_⟩
        have h1 := openL_len (runS budget pages.toNat ops ops.length)
        have h2 := runS_len budget pages.toNat ops ops.length
        omega
      · rw [if_neg hq, if_neg hq]
        simp
    have hSR := fun (W : World) (Ao : Option Addr) (co : Nat) (h1 : Kd.C k52 W Ao ops.length ops) (h2 : ops.length ≤ co) => SsN2.run_is W pages budget Ao co ops HP.out HBU.out h1 h2 (by omega) hof
    have hIR := fun (W : World) (Ao : Option Addr) (co : Nat) (h1 : Kd.C k52 W Ao ops.length ops) (h2 : ops.length ≤ co) => SpR.run_is W pages budget Ao co ops HP.out HBU.out h1 h2 (by omega) hof
    obtain ⟨ok, hok⟩ : ∃ x, runOK pages budget ops.length = x := ⟨_, rfl⟩
    obtain ⟨xs, hxs⟩ : ∃ x, (if runOK pages budget ops.length then runO budget pages.toNat ops ops.length else []) = x := ⟨_, rfl⟩
    obtain ⟨op, hop⟩ : ∃ x, (if runOK pages budget ops.length then openL (runS budget pages.toNat ops ops.length) else []) = x := ⟨_, rfl⟩
    obtain ⟨cm, hcm⟩ : ∃ x : Int, (if runOK pages budget ops.length then (onCount (runS budget pages.toNat ops ops.length) : Int) else 0) = x := ⟨_, rfl⟩
    rw [hxs, hop] at hsm
    rw [hxs, hop, hcm, hok] at hSR hIR
    obtain ⟨hx1, hx2, ho1⟩ := hsm
    obtain ⟨Ke, hKe⟩ := Ev.rounds (eqR_f ok xs cm op (by omega) (fun x hx => by have := hx2 x hx; omega) (by omega))
    obtain ⟨Ko, hKo⟩ := Ev.rounds (eqOS_f ops (by omega) (fun x hx => by have := hoi x hx; omega))
    obtain ⟨Kh, hKh⟩ := Ev.rounds (heldR_f ok xs cm op hx1 ho1 hx2)
    have HTO := Lib.hid hTO
    have HSR := Lib.hid hSR
    have HIR := Lib.hid hIR
    have HKE := Lib.hid hKe
    have HKO := Lib.hid hKo
    have HKH := Lib.hid hKh
    have HX := Lib.hid (And.intro hx1 (And.intro hx2 ho1))
    have HO := Lib.hid (And.intro (show ops.length ≤ 1048576 by omega) hoi)
    have hkl := kk_le xs 1 1048576 hx2 (by omega) xs.length (Nat.le_refl _)
    obtain ⟨q, hq⟩ : ∃ q, kk xs 1 xs.length + (op.length : Int) = q := ⟨_, rfl⟩
    have HQ := Lib.hid hq
    have hq0 : 0 ≤ q ∧ q ≤ 100000000000 := by omega
    clear hTO hSR hIR hKe hKo hKh hx1 hx2 ho1 hkl hq hok hxs hop hcm hol hof hoi hops hn hni hto hKt HR3 HF HP HBU
    go_enter Try.func7, Try.ntmps7
    go_upto_region 6 with (first | (go_at_call 27; refine HSZ.out.mono ?_; rintro e w1 ⟨rfl, hB1⟩; have HB1 := Lib.hid hB1; clear hB1) | (go_at_call 28; refine (HTO.out w1 HB1.out).mono ?_; rintro e w2 ⟨v2, rfl, hS2, hB2⟩; obtain ⟨Ao, co, rfl, hco, hC2⟩ := Kd.S_reads hS2; have HC2 := Lib.hid hC2; have HB2 := Lib.hid hB2; clear hS2 hB2 hC2) | (go_at_call 24; refine (HSR.out w2 Ao co HC2.out hco).mono ?_; intro e w3 hP3; obtain ⟨B3, A3, c3, A4, c4, rfl, hB3, hR3⟩ := rep_of hP3; have HB3 := Lib.hid hB3; have HR3 := Lib.hid hR3; clear hB3 hR3 hP3))
    obtain ⟨b8, hb8⟩ : ∃ x, w3.heap.size = x := ⟨_, rfl⟩
    have hz4 : (w3.alloc (.cells #[.bool ok, .slice A3 xs.length c3, .int .i64 cm, .slice A4 op.length c4] 48)).heap.size = w3.heap.size + 1 := by simp
    have hBw : Below w.heap.size w (w3.alloc (.cells #[.bool ok, .slice A3 xs.length c3, .int .i64 cm, .slice A4 op.length c4] 48)) := below_alloc (((HB1.out.trans (HB2.out.mono HB1.out.size)).trans (HB3.out.mono (Nat.le_trans HB1.out.size HB2.out.size)))) _
    have h23 := HB3.out.size
    have h12 := HB2.out.size
    have h01 := HB1.out.size
    obtain ⟨w4, hw4⟩ : ∃ x, w3.alloc (.cells #[.bool ok, .slice A3 xs.length c3, .int .i64 cm, .slice A4 op.length c4] 48) = x := ⟨_, rfl⟩
    rw [hw4, hb8] at HR3
    rw [hw4] at hBw hz4 ⊢
    rw [hb8] at hz4 h23 ⊢
    have HZ4 := Lib.hid (show w4.heap.size = b8 + 1 ∧ w2.heap.size ≤ b8 ∧ w.heap.size ≤ w2.heap.size by omega)
    have HBW := Lib.hid hBw
    clear hBw hz4 hw4 hb8 h23 h12 h01 HB1 HB2 HB3 HC2 HSZ hco
    go_upto_region 8 with (first | (go_at_call 28; refine (HTO.out w4 HBW.out).mono ?_; rintro e w5 ⟨v5, rfl, hS5, hB5⟩; obtain ⟨A5, c5, rfl, hc5, hC5⟩ := Kd.S_reads hS5; have HC5 := Lib.hid hC5; have HB5 := Lib.hid hB5; have HX5 := Lib.hid (OpR.of hS5); clear hS5 hB5 hC5) | (go_at_call 23; refine (HIR.out w5 A5 c5 HC5.out hc5).mono ?_; intro e w6 hP6; obtain ⟨B6, A6, c6, A7, c7, rfl, hB6, hR6⟩ := rep_of hP6; have HB6 := Lib.hid hB6; have HR6 := Lib.hid hR6; clear hB6 hR6 hP6))
    obtain ⟨b10, hb10⟩ : ∃ x, w6.heap.size = x := ⟨_, rfl⟩
    have hz7 : (w6.alloc (.cells #[.bool ok, .slice A6 xs.length c6, .int .i64 cm, .slice A7 op.length c7] 48)).heap.size = w6.heap.size + 1 := by simp
    have h57 : Below w5.heap.size w5 (w6.alloc (.cells #[.bool ok, .slice A6 xs.length c6, .int .i64 cm, .slice A7 op.length c7] 48)) := below_alloc HB6.out _
    have h56 := HB6.out.size
    have h45 := HB5.out.size
    obtain ⟨w7, hw7⟩ : ∃ x, w6.alloc (.cells #[.bool ok, .slice A6 xs.length c6, .int .i64 cm, .slice A7 op.length c7] 48) = x := ⟨_, rfl⟩
    rw [hw7, hb10] at HR6
    rw [hw7] at h57 hz7 ⊢
    rw [hb10] at hz7 h56 ⊢
    have HR8 := Lib.hid ((HR3.out.below HB5.out).below h57)
    have HX7 := Lib.hid (HX5.out.below h57)
    have HBW7 := Lib.hid ((HBW.out.trans (HB5.out.mono HBW.out.size)).trans (h57.mono (Nat.le_trans HBW.out.size h45)))
    have HZ7 := Lib.hid (show w7.heap.size = b10 + 1 ∧ w5.heap.size ≤ b10 ∧ w4.heap.size ≤ w5.heap.size by omega)
    obtain ⟨r1, r2, r3, r4⟩ := HR8.out.reads
    obtain ⟨g1, g2, g3, g4⟩ := HR6.out.reads
    have HEQ7 := Lib.hid (laws_eqSpaceReport.calls Ke ok A6 c6 xs cm A7 c7 op ok A3 c3 xs cm A4 c4 op true w7 g1 g2 g3 g4 r1 r2 r3 r4 HKE.out)
    obtain ⟨k0, k1, k2, k3⟩ := HR8.out.cells
    obtain ⟨m0, m1, m2, m3⟩ := HR6.out.cells
    clear hz7 h57 h56 h45 hw7 hb10 r1 r2 r3 r4 g1 g2 g3 g4 HR3 HB6 HC5 HX5
    go_upto_region 10 with (go_at_call 29; refine HEQ7.out.mono ?_; rintro e w8 ⟨rfl, hB8⟩; have HB8 := Lib.hid hB8; clear hB8)
    have HBW8 := Lib.hid (HBW7.out.trans (HB8.out.mono HBW7.out.size))
    clear k0 k1 k2 k3 m0 m1 m2 m3 HEQ7
    go_upto_region 12 with (first | (go_at_call 28; refine (HTO.out w8 HBW8.out).mono ?_; rintro e w9 ⟨v9, rfl, hS9, hB9⟩; obtain ⟨A9, c9, rfl, hc9, hC9⟩ := Kd.S_reads hS9; have HC9 := Lib.hid hC9; have HB9 := Lib.hid hB9; clear hS9 hB9 hC9) | (go_at_call 30; refine (laws_eqSpaceOpS.calls Ko A5 c5 ops A9 c9 ops true w9 (Kd.S_reads' ((HX7.out.below HB8.out).below HB9.out).s).2.2 hc5 HC9.out hc9 HKO.out).mono ?_; rintro e w10 ⟨rfl, hB10⟩; have HB10 := Lib.hid hB10; clear hB10))
    have h78 := HB8.out.size
    have h89 := HB9.out.size
    have h910 := HB10.out.size
    have h7_10 : Below w7.heap.size w7 w10 := (HB8.out.trans (HB9.out.mono h78)).trans (HB10.out.mono (Nat.le_trans h78 h89))
    have HBW10 := Lib.hid (HBW7.out.trans (h7_10.mono HBW7.out.size))
    have HX10 := HX7.out.below h7_10
    have HR8x := Lib.hid (HR8.out.below h7_10)
    have HR6x := Lib.hid (HR6.out.below h7_10)
    have HMK := Lib.hid (markOps_is w w10 (fun k => w4.heap.size ≤ k ∧ k < w5.heap.size) (.slice A5 ops.length c5) ops HBW10.out (Kd.S_mono (Kd.S_lower (Kd.S_bound HX10.s) (by have := HBW.out.size; omega)) (fun k hk => ⟨hk.2.1, hk.1⟩)) HO.out.1 HO.out.2)
    have HZ10 := Lib.hid (show w7.heap.size ≤ w10.heap.size by omega)
    clear h78 h89 h910 h7_10 HX10 HR8 HR6 HX7 HB8 HB9 HB10 HC9 HBW8 hc9
    go_upto_region 14 with (go_at_call 31; refine HMK.out.mono ?_; rintro e w11 ⟨m, hm0, rfl, hB11, hK11⟩; have HB11 := Lib.hid hB11; have HK11 := Lib.hid hK11; clear hB11 hK11)
    have HR8y := Lib.hid (HR8x.out.kept HK11.out (fun k hk e => by have := HZ4.out; have := HZ7.out; omega))
    have HR6y := Lib.hid (HR6x.out.kept HK11.out (fun k hk e => by have := HZ4.out; have := HZ7.out; omega))
    obtain ⟨r1, r2, r3, r4⟩ := HR8y.out.reads
    obtain ⟨g1, g2, g3, g4⟩ := HR6y.out.reads
    have HEQ := Lib.hid (laws_eqSpaceReport.calls Ke ok A6 c6 xs cm A7 c7 op ok A3 c3 xs cm A4 c4 op true w11 g1 g2 g3 g4 r1 r2 r3 r4 HKE.out)
    obtain ⟨k0, k1, k2, k3⟩ := HR8y.out.cells
    obtain ⟨m0, m1, m2, m3⟩ := HR6y.out.cells
    have hmd : decide (m < 0) = false := by simp; omega
    clear r1 r2 r3 r4 g1 g2 g3 g4 HMK HR8x HR6x hm0
    go_upto_region 16 with (go_at_call 29; refine HEQ.out.mono ?_; rintro e w12 ⟨rfl, hB12⟩; have HB12 := Lib.hid hB12; clear hB12)
    have HBW12 := Lib.hid (HB11.out.trans (HB12.out.mono HB11.out.size))
    have hR8 := HR8y.out.below HB12.out
    have hR6 := HR6y.out.below HB12.out
    have HMR := Lib.hid (markReport_is w w12 (fun k => w5.heap.size ≤ k ∧ k < B6 ∧ k < b10) (fun k => w5.heap.size ≤ k ∧ B6 ≤ k ∧ k < b10) ok (.slice A6 xs.length c6) (.slice A7 op.length c7) cm xs op HBW12.out
      (Kd.S_mono (Kd.S_lower (Kd.S_bound hR6.s) (by have := HBW.out.size; have := HZ7.out; omega)) (fun k hk => ⟨hk.2.1, hk.1⟩)) (Kd.R_mono (Kd.R_lower (Kd.R_bound hR6.r) (by have := HBW.out.size; have := HZ7.out; omega)) (fun k hk => ⟨hk.2.1, hk.1⟩)) (fun k hk h2 => by omega) HX.out.1 HX.out.2.1 HX.out.2.2)
    obtain ⟨p0, p1, p2, p3⟩ := hR6.cells
    have HR8z := Lib.hid hR8
    have HR6z := Lib.hid hR6
    rw [HQ.out] at HMR
    clear k0 k1 k2 k3 m0 m1 m2 m3 HEQ hR8 hR6 HR8y HR6y
    go_upto_region 18 with (go_at_call 32; refine HMR.out.mono ?_; rintro e w13 ⟨rfl, hS13, hR13, hB13, hK13⟩; have HS13 := Lib.hid hS13; have HR13 := Lib.hid hR13; have HB13 := Lib.hid hB13; have HK13 := Lib.hid hK13; clear hS13 hR13 hB13 hK13)
    have HR8a := Lib.hid (HR8z.out.kept HK13.out (fun k hk e => by have := HZ4.out; have := HZ7.out; omega))
    have HBX := Lib.hid ((HK13.out.2 _ (lt_of HR6z.out.box) (fun e => by omega)).trans HR6z.out.box)
    have hs13 := Kd.S_reads' HS13.out
    have hr13 := Kd.R_reads' HR13.out
    rw [stA_len] at hs13
    rw [st_len] at hr13
    have HCA13 := Lib.hid (And.intro hs13.2 hr13.2)
    have hheld : ∀ W, Below w13.heap.size w13 W → Calls Try.prog 33 #[.agg #[.bool ok, .slice A6 xs.length c6, .int .i64 cm, .slice A7 op.length c7], .int .i64 1] W fun e w' => e = .returned (.int .i64 q) ∧ Below W.heap.size W w' := fun W hW => by
      have h := laws_heldSpaceReport.calls Kh ok A6 c6 (stA xs 1 xs.length) cm A7 c7 (st gI op (kk xs 1 xs.length) op.length) 1 _ W (Kd.C_below (by rw [stA_len]; exact HCA13.out.1.2) hW) (by rw [stA_len]; exact HCA13.out.1.1) (Kd.C_below (by rw [st_len]; exact HCA13.out.2.2) hW) (by rw [st_len]; exact HCA13.out.2.1) HKH.out
      rw [stA_len, st_len, HQ.out] at h
      exact h
    have HHELD := Lib.hid hheld
    obtain ⟨m0, m1, m2, m3⟩ : w13.cell? ⟨b10, 0, none⟩ = some (.bool ok) ∧ w13.cell? ⟨b10, 1, none⟩ = some (.slice A6 xs.length c6) ∧ w13.cell? ⟨b10, 2, none⟩ = some (.int .i64 cm) ∧ w13.cell? ⟨b10, 3, none⟩ = some (.slice A7 op.length c7) := ⟨bcell HBX.out 0, bcell HBX.out 1, bcell HBX.out 2, bcell HBX.out 3⟩
    have hqd : decide (q < 0) = false := by simp; omega
    clear p0 p1 p2 p3 HMR HS13 HR13 HCA13 hheld hs13 hr13
    go_upto_region 24 with (go_at_call 33; refine (HHELD.out w13 (Below.refl _ _)).mono ?_; rintro e w14 ⟨rfl, hB14⟩; have HB14 := Lib.hid hB14; clear hB14)
    have HBW14 := Lib.hid (HB13.out.trans (HB14.out.mono HB13.out.size))
    clear m0 m1 m2 m3
    go_upto_region 25 with (first | (go_at_call 28; refine (HTO.out w14 HBW14.out).mono ?_; rintro e w15 ⟨v15, rfl, hS15, hB15⟩; obtain ⟨A15, c15, rfl, hc15, hC15⟩ := Kd.S_reads hS15; have HC15 := Lib.hid hC15; have HB15 := Lib.hid hB15; clear hS15 hB15 hC15) | (go_at_call 23; refine (HIR.out w15 A15 c15 HC15.out hc15).mono ?_; intro e w16 hP16; obtain ⟨B16, A16, c16, A17, c17, rfl, hB16, hR16⟩ := rep_of hP16; have HB16 := Lib.hid hB16; have HR16 := Lib.hid hR16; clear hB16 hR16 hP16))
    have h17 := ((HB14.out.trans (HB15.out.mono HB14.out.size)).trans (HB16.out.mono (Nat.le_trans HB14.out.size HB15.out.size)))
    have h17b := below_alloc h17 (.cells #[.bool ok, .slice A16 xs.length c16, .int .i64 cm, .slice A17 op.length c17] 48)
    obtain ⟨b17, hb17⟩ : ∃ x, w16.heap.size = x := ⟨_, rfl⟩
    obtain ⟨w17, hw17⟩ : ∃ x, w16.alloc (.cells #[.bool ok, .slice A16 xs.length c16, .int .i64 cm, .slice A17 op.length c17] 48) = x := ⟨_, rfl⟩
    rw [hw17, hb17] at HR16
    rw [hw17] at h17b ⊢
    rw [hb17]
    have H1317 := Lib.hid h17b
    have HR8b := Lib.hid (HR8a.out.below h17b)
    obtain ⟨r1, r2, r3, r4⟩ := HR8b.out.reads
    obtain ⟨g1, g2, g3, g4⟩ := HR16.out.reads
    have HEQ := Lib.hid (laws_eqSpaceReport.calls Ke ok A16 c16 xs cm A17 c17 op ok A3 c3 xs cm A4 c4 op true w17 g1 g2 g3 g4 r1 r2 r3 r4 HKE.out)
    obtain ⟨k0, k1, k2, k3⟩ := HR8b.out.cells
    obtain ⟨m0, m1, m2, m3⟩ := HR16.out.cells
    clear h17 h17b hb17 hw17 r1 r2 r3 r4 g1 g2 g3 g4 HR8a HC15
    go_upto_region 27 with (go_at_call 29; refine HEQ.out.mono ?_; rintro e w18 ⟨rfl, hB18⟩; have HB18 := Lib.hid hB18; clear hB18)
    have H1318 := Lib.hid (H1317.out.trans (HB18.out.mono H1317.out.size))
    have HBW18 := Lib.hid (HB13.out.trans (H1318.out.mono HB13.out.size))
    have hbx := (H1318.out.block _ (lt_of HBX.out)).trans HBX.out
    obtain ⟨p0, p1, p2, p3⟩ : w18.cell? ⟨b10, 0, none⟩ = some (.bool ok) ∧ w18.cell? ⟨b10, 1, none⟩ = some (.slice A6 xs.length c6) ∧ w18.cell? ⟨b10, 2, none⟩ = some (.int .i64 cm) ∧ w18.cell? ⟨b10, 3, none⟩ = some (.slice A7 op.length c7) := ⟨bcell hbx 0, bcell hbx 1, bcell hbx 2, bcell hbx 3⟩
    clear k0 k1 k2 k3 m0 m1 m2 m3 hbx HEQ
    go_wp2_with (go_at_call 33; refine (HHELD.out w18 H1318.out).mono ?_; rintro e w19 ⟨rfl, hB19⟩; have HB19 := Lib.hid hB19; clear hB19)
    go_ret
    exact ⟨rfl, HBW18.out.trans (HB19.out.mono HBW18.out.size)⟩
theorem wf64 {x : Int} (h : (Lit.int .i64 x).wf = true) : IntKind.i64.wrap x = x := by
  simp [Lit.wf] at h
  have e1 : IntKind.i64.min = -9223372036854775808 := by decide
  rw [e1] at h
  rw [IntKind.wrap_i64]
  omega
theorem runSpace_law {w : World} (pages budget : Int) (Aa : Option Addr) (ca : Nat) (l : List Lo) (hp : (Lit.int .i64 pages).wf = true) (hb : (Lit.int .i64 budget).wf = true) (hC : Kd.C k100 w Aa l.length l) (hca : l.length ≤ ca) (hf : ∀ o ∈ l, 0 ≤ o.f3 ∧ o.f3 ≤ 18446744073709551615) :
    Calls Try.prog 7 #[.int .i64 pages, .int .i64 budget, .slice Aa l.length ca] w fun e w' => e = .returned (.bool true) ∧ Below w.heap.size w w' := law_is w pages budget Aa ca l (wf64 hp) (wf64 hb) hC hca hf
end Go.Proofs.Ytklobepkihdbkaa.RsL
