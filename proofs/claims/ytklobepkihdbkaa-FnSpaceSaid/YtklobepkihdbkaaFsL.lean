/- The law on the space: its walk. -/
import Derived.Test.YtklobepkihdbkaaDs1
import Derived.Test.YtklobepkihdbkaaFs1
import Derived.Test.YtklobepkihdbkaaSs2
import Derived.Test.YtklobepkihdbkaaPFnSpacex10
namespace Go.Proofs.Ytklobepkihdbkaa.FsL
open Go.RowKit Go.MuLone Go.Proofs.YtklobepkihdbkaaW.PrintWords Go.Proofs.Ytklobepkihdbkaa.PFnExactRunSpace Go.Proofs.Ytklobepkihdbkaa.Ev Go.Proofs.Ytklobepkihdbkaa.RsP Mem SpI SpR Mrk Sp SpD SpO FsP Rep Dsp RdS
set_option linter.unusedVariables false
set_option linter.unusedSimpArgs false
theorem same_l0 (l : List Int) (hn : l.length ≤ 1048576) : ∀ d j : Nat, j + d = l.length → Ev (fun K => PFnSpace.laws_sameInts.l0 K l l (l.length : Int) j) true
  | 0, j, h => Ev.step (k := Ev.now _) fun K => by
      obtain rfl : j = l.length := by omega
      rw [PFnSpace.laws_sameInts.l0, if_neg (by omega)]
  | d + 1, j, h => Ev.step (k := same_l0 l hn d (j + 1) (by omega)) fun K => by
      rw [PFnSpace.laws_sameInts.l0, if_pos (by omega), if_pos (by omega), if_pos (by omega), if_pos (by omega), if_pos rfl, w64s (by omega)]
theorem same_f (l : List Int) (hn : l.length ≤ 1048576) : Ev (fun K => PFnSpace.laws_sameInts.f K l l) true := Ev.congr (k := same_l0 l hn l.length 0 (by omega)) fun K => by rw [PFnSpace.laws_sameInts.f, if_pos rfl]; rfl
theorem sameInts_is (l : List Int) (hn : l.length ≤ 1048576) {A1 A2 : Option Addr} {c1 c2 : Nat} (w : World) (h1 : Kd.C (Kd.int .i64) w A1 l.length l) (hc1 : l.length ≤ c1) (h2 : Kd.C (Kd.int .i64) w A2 l.length l) (hc2 : l.length ≤ c2) :
    Calls Try.prog 25 #[.slice A1 l.length c1, .slice A2 l.length c2] w fun e w' => e = .returned (.bool true) ∧ Below w.heap.size w w' := by
  obtain ⟨K, hK⟩ := Ev.rounds (same_f l hn)
  exact (PFnSpace.laws_sameInts.calls K A1 c1 l A2 c2 l true w h1 hc1 h2 hc2 hK).mono fun _ _ h => ⟨h.1, h.2.below⟩
theorem sameBytes_is (l : List Int) {A1 A2 : Option Addr} {c1 c2 : Nat} (w : World) (h1 : Kd.C (Kd.int .u8) w A1 l.length l) (hc1 : l.length ≤ c1) (h2 : Kd.C (Kd.int .u8) w A2 l.length l) (hc2 : l.length ≤ c2) :
    Calls Try.prog 26 #[.slice A1 l.length c1, .slice A2 l.length c2] w fun e w' => e = .returned (.bool true) ∧ Below w.heap.size w w' :=
  (PFnSpace.laws_sameBytes.calls A1 c1 l A2 c2 l true w h1 hc1 h2 hc2 (by unfold PFnSpace.laws_sameBytes.f; simp)).mono fun _ _ h => ⟨h.1, h.2.below⟩
theorem lockA_len (A : Pages) (p c : Int) (o : Bool) : (lockA A p c o).length = A.length := by unfold lockA; split <;> simp [setR_len]
theorem step_len (bud : Int) (A : Pages) (o : So) : (stepA bud A o).length = A.length := by
  unfold stepA doA
  have h1 : ∀ p c, (commitA bud A p c).length = A.length := fun p c => by unfold commitA; split <;> simp [setR_len]
  have h2 : ∀ p c, (decommitA A p c).length = A.length := fun p c => by unfold decommitA; split <;> simp [setR_len]
  have h3 : ∀ a d, (storeA A a d).length = A.length := fun a d => by unfold storeA; split <;> simp [putAll_len]
  by_cases c0 : o.f0 = 0
  · rw [if_pos c0, h1]
  by_cases c1 : o.f0 = 1
  · rw [if_neg c0, if_pos c1, h2]
  by_cases c2 : o.f0 = 2
  · rw [if_neg c0, if_neg c1, if_pos c2, lockA_len]
  by_cases c3 : o.f0 = 3
  · rw [if_neg c0, if_neg c1, if_neg c2, if_pos c3, lockA_len]
  by_cases c5 : o.f0 = 5
  · rw [if_neg c0, if_neg c1, if_neg c2, if_neg c3, if_pos c5, h3]
  · rw [if_neg c0, if_neg c1, if_neg c2, if_neg c3, if_neg c5]
theorem runS_len (bud : Int) (n : Nat) (ops : List So) : ∀ j, (runS bud n ops j).length = n
  | 0 => List.length_replicate
  | j + 1 => by rw [runS, step_len, runS_len bud n ops j]
theorem runO_at (bud : Int) (n : Nat) (ops : List So) (m j : Nat) (h : j < m) : (runO bud n ops m).getD j zA = ansO bud (runS bud n ops j) (ops.getD j zO) := by
  unfold runO
  rw [List.getD_eq_getElem?_getD, List.getElem?_map, List.getElem?_range h]
  rfl
theorem sameBytes_q (l : List Int) {A1 A2 : Option Addr} {c1 c2 : Nat} (w : World) (h1 : Kd.C (Kd.int .u8) w A1 l.length l) (hc1 : l.length ≤ c1) (h2 : Kd.C (Kd.int .u8) w A2 l.length l) (hc2 : l.length ≤ c2) :
    Calls Try.prog 26 #[.slice A1 l.length c1, .slice A2 l.length c2] w fun e w' => e = .returned (.bool true) ∧ ∃ m, w' = w.drewN m :=
  (PFnSpace.laws_sameBytes.calls A1 c1 l A2 c2 l true w h1 hc1 h2 hc2 (by unfold PFnSpace.laws_sameBytes.f; simp)).mono fun _ _ h => ⟨h.1, h.2.1⟩
theorem lit3 (W : World) : (Kd.int .u8).R 5 (W.alloc (.cells #[.int .u8 1, .int .u8 2, .int .u8 3] 5)) W.heap.size (fun _ => True) (.slice (some ⟨W.heap.size, 0, none⟩) 3 3) [1, 2, 3] :=
  Kd.R_of_own (World.ownsRow_lit (base := W.heap.size) (e := 5) (size := 1) W #[.int .u8 1, .int .u8 2, .int .u8 3] 3 (Nat.le_refl _) (by decide) rfl) (fun _ _ => trivial)
theorem wu {x : Int} (h : 0 ≤ x) (h' : x ≤ 4611686018427387904) : IntKind.u64.wrap x = x := by rw [IntKind.wrap_u64]; omega
theorem tmod_nat (a b q : Nat) (h : a % b = q) : (a : Int).tmod (b : Int) = (q : Int) := by rw [Int.tmod_eq_emod_of_nonneg (by omega), ← h]; rfl
theorem lit2 (wq W : World) (ad : Addr) (D : List Int) (cD : Nat) (a : Int) (hc : D.length ≤ cD) (hD : (Kd.int .u8).C wq (some ad) D.length D) :
    ReadsRow (k52.K wq) 6 (W.alloc (.cells #[.int .i64 5, .int .i64 0, .int .i64 0, .int .u64 a, .int .i64 0, .slice (some ad) D.length cD, .int .i64 4, .int .i64 0, .int .i64 0, .int .u64 a, .int .i64 D.length, .slice none 0 0] 52)) (some ⟨W.heap.size, 0, none⟩) 2 [stO a D, ldO a D.length] := by
  have hr : Reps (k52.K wq) 6 [stO a D, ldO a D.length] [.int .i64 5, .int .i64 0, .int .i64 0, .int .u64 a, .int .i64 0, .slice (some ad) D.length cD, .int .i64 4, .int .i64 0, .int .i64 0, .int .u64 a, .int .i64 D.length, .slice none 0 0] := by
    refine ⟨rfl, fun j p hj => ?_⟩
    match j, hj with
    | 0, hj =>
      obtain rfl : stO a D = p := by simpa using hj
      exact k52_mk wq (stO a D) hc hD
    | 1, hj =>
      obtain rfl : ldO a D.length = p := by simpa using hj
      exact k52_mk wq (ldO a D.length) (A5 := none) (c5 := 0) (Nat.le_refl _) (Kd.C_nil _ _)
    | j + 2, hj => simp at hj
  obtain ⟨A, c, hA, hc2, hR⟩ := (OwnRow.lit (e := 52) W W.heap.size hr (Nat.le_refl _) (by simp)).reads
  simp only [Value.slice.injEq] at hA
  obtain ⟨rfl, _, rfl⟩ := hA
  exact hR
theorem keptS_mem (bud : Int) (n : Nat) (ops : List So) : ∀ j, j ≤ ops.length → ∀ o ∈ keptS bud n ops j, o ∈ ops
  | 0, _, o, h => by cases h
  | j + 1, hj, o, h => by
    rw [keptS] at h
    split at h
    · rcases List.mem_append.1 h with h | h
      · exact keptS_mem bud n ops j (by omega) o h
      · rw [List.mem_singleton.1 h]
        exact getD_mem (by omega)
    · exact keptS_mem bud n ops j (by omega) o h
theorem lent_ok {α : Type} {d : Kd α} {W0 W : World} {e base : Nat} {ok ok' : Nat → Prop} {v : Value} {xs : List α} (h : (lent d W0).R e W base ok v xs) (hk : ∀ k, v.ownBlock = some k → ok' k) : (lent d W0).R e W base ok' v xs := ⟨hk, h.2⟩
theorem own_ne {α β : Type} {d : Kd α} {d' : Kd β} {W : World} {e e' b b' : Nat} {ok ok' : Nat → Prop} {v v' : Value} {xs : List α} {xs' : List β} (h : d.R e W b ok v xs) (h' : d'.R e' W b' ok' v' xs') (hne : e ≠ e') : ∀ k, v'.ownBlock = some k → some k ≠ v.ownBlock := fun k hk => by
  obtain ⟨_, inner, ho, _⟩ := h'
  obtain ⟨cells, hc⟩ := own_typed ho k hk
  exact Kd.R_ne h hc hne
/-- The rows of the loop that gathers the operations which were answered by 0. -/
structure Gat (w6 W : World) (base : Nat) (kv av : Value) (ks : List So) (la : List An) : Prop where
  k : (lent k52 w6).R 52 W base (fun _ => True) kv ks
  a : (lent k54 w6).R 54 W base (fun _ => True) av la
  b : Below w6.heap.size w6 W
theorem Gat.below {w6 W W1 : World} {base : Nat} {kv av : Value} {ks : List So} {la : List An} (h : Gat w6 W base kv av ks la) (hB : Below W.heap.size W W1) : Gat w6 W1 base kv av ks la :=
  ⟨Kd.R_below h.k hB, Kd.R_below h.a hB, h.b.trans (hB.mono h.b.size)⟩
theorem Gat.drewN {w6 W : World} {base : Nat} {kv av : Value} {ks : List So} {la : List An} (h : Gat w6 W base kv av ks la) (n : Nat) : Gat w6 (W.drewN n) base kv av ks la :=
  ⟨Kd.R_move h.k (fun _ _ => rfl), Kd.R_move h.a (fun _ _ => rfl), pw_below_drewN h.b n⟩
theorem Gat.addk {w6 W W1 : World} {base : Nat} {kv av v1 : Value} {ks ks1 : List So} {la : List An} (h : Gat w6 W base kv av ks la) (hb : base ≤ w6.heap.size) (hR : (lent k52 w6).R 52 W1 base (fun _ => True) v1 ks1) (hB : Below w6.heap.size w6 W1) (hg : W.grownBy W1 kv.ownBlock) : Gat w6 W1 base v1 av ks1 la :=
  ⟨hR, lent_ok (Kd.R_grown (lent_ok (ok' := fun k => some k ≠ kv.ownBlock) h.a (own_ne h.k h.a (by decide))) hg (fun k hk => hk)) (fun _ _ => trivial), hB⟩
theorem Gat.adda {w6 W W1 : World} {base : Nat} {kv av v1 : Value} {ks : List So} {la la1 : List An} (h : Gat w6 W base kv av ks la) (hb : base ≤ w6.heap.size) (hR : (lent k54 w6).R 54 W1 base (fun _ => True) v1 la1) (hB : Below w6.heap.size w6 W1) (hg : W.grownBy W1 av.ownBlock) : Gat w6 W1 base kv v1 ks la1 :=
  ⟨lent_ok (Kd.R_grown (lent_ok (ok' := fun k => some k ≠ av.ownBlock) h.k (own_ne h.a h.k (by decide))) hg (fun k hk => hk)) (fun _ _ => trivial), hR, hB⟩
set_option maxRecDepth 100000 in
set_option maxHeartbeats 8000000 in
theorem space_law {w : World} (A : Option Addr) (c : Nat) (s : List Int) (hC : Kd.C (Kd.int .u8) w A s.length s) (hc : s.length ≤ c) (hwf : ∀ x ∈ s, (Lit.int .u8 x).wf = true) (hy : s.length * 1 ≤ 140737488351232) :
    Calls Try.prog 6 #[.slice A s.length c] w fun e w' => e = .returned (.bool true) ∧ Below w.heap.size w w' := by
  by_cases hbig : 1048576 < s.length
  · go_enter Try.func6, Try.ntmps6
    go_wp2
    go_ret
    exact ⟨rfl, Below.refl _ _⟩
  have hl : s.length ≤ 1048576 := by omega
  have hS : Bytes s := fun x hx => ⟨(bounds_u8 (hwf x hx)).1, (bounds_u8 (hwf x hx)).2⟩
  have HDR := Lib.hid (draw_is w hC hc hS hl)
  have HC := Lib.hid hC
  have HSB := Lib.hid hS
  clear hC hwf hy hS hbig
  go_enter Try.func6, Try.ntmps6
  go_upto_region 4 with (go_at_call 22; refine HDR.out.mono ?_; rintro e w1 ⟨pages, budget, ops, v, rfl, hp, hb, hlen, hS, hf, hB1⟩; obtain ⟨Ao, co, rfl, hco, hCo⟩ := Kd.S_reads hS; have HB1 := Lib.hid hB1; have HCo := Lib.hid hCo; have HF := Lib.hid hf; clear hS hf hB1 hCo HDR)
  obtain ⟨no, hno⟩ : ∃ x, ops.length = x := ⟨_, rfl⟩
  have hpw : IntKind.i64.wrap pages = pages := by rw [IntKind.wrap_i64]; omega
  have hbw : IntKind.i64.wrap budget = budget := by rw [IntKind.wrap_i64]; omega
  have HRI := Lib.hid (SpR.run_is w1 pages budget Ao co ops hpw hbw HCo.out hco (by omega) HF.out)
  have HRS := fun (W : World) (hW : Below w1.heap.size w1 W) => SsN2.run_is W pages budget Ao co ops hpw hbw (Kd.C_below HCo.out hW) hco (by omega) HF.out
  have HRS := Lib.hid HRS
  have HPW := Lib.hid (And.intro hpw hbw)
  clear hpw hbw
  obtain ⟨ok, hok⟩ : ∃ x, runOK pages budget ops.length = x := ⟨_, rfl⟩
  obtain ⟨xs, hxs⟩ : ∃ x, (if runOK pages budget ops.length then runO budget pages.toNat ops ops.length else []) = x := ⟨_, rfl⟩
  obtain ⟨op, hop⟩ : ∃ x, (if runOK pages budget ops.length then openL (runS budget pages.toNat ops ops.length) else []) = x := ⟨_, rfl⟩
  obtain ⟨cm, hcm⟩ : ∃ x : Int, (if runOK pages budget ops.length then (onCount (runS budget pages.toNat ops ops.length) : Int) else 0) = x := ⟨_, rfl⟩
  rw [hxs, hop, hcm, hok, hno] at HRI HRS
  have HNO := Lib.hid hno
  have HOK := Lib.hid hok
  have HXS := Lib.hid hxs
  have HOP := Lib.hid hop
  have HCM := Lib.hid hcm
  rw [hno]
  rw [hno] at hlen hco HCo
  clear hno hok hxs hop hcm
  go_upto_region 6 with (first | (go_at_call 23; refine HRI.out.mono ?_; intro e w2 hRn; obtain ⟨B2, A2, c2, A3, c3, rfl, hB2, hR2⟩ := rep_of hRn; have HB2 := Lib.hid hB2; have HR2 := Lib.hid hR2; clear hRn hB2 hR2) | (go_at_call 24; refine (HRS.out _ (below_alloc HB2.out _)).mono ?_; intro e w4 hRn; obtain ⟨B4, A4, c4, A5, c5, rfl, hB4, hR4⟩ := rep_of hRn; have HB4 := Lib.hid hB4; have HR4 := Lib.hid hR4; clear hRn hB4 hR4))
  obtain ⟨b6, hb6⟩ : ∃ x, w2.heap.size = x := ⟨_, rfl⟩
  obtain ⟨wa, hwa⟩ : ∃ x, w2.alloc (.cells #[.bool ok, .slice A2 xs.length c2, .int .i64 cm, .slice A3 op.length c3] 48) = x := ⟨_, rfl⟩
  obtain ⟨b7, hb7⟩ : ∃ x, w4.heap.size = x := ⟨_, rfl⟩
  obtain ⟨w5, hw5⟩ : ∃ x, w4.alloc (.cells #[.bool ok, .slice A4 xs.length c4, .int .i64 cm, .slice A5 op.length c5] 48) = x := ⟨_, rfl⟩
  rw [hwa] at HR2 HB4 HR4
  rw [hb6] at HR2
  rw [hw5] at HR4 ⊢
  rw [hb7] at HR4
  rw [hb6, hb7]
  have hBa : Below w1.heap.size w1 wa := by rw [← hwa]; exact below_alloc HB2.out _
  have hB45 : Below wa.heap.size wa w5 := by rw [← hw5]; exact below_alloc HB4.out _
  have HR6 := Lib.hid (HR2.out.below hB45)
  have HB5 := Lib.hid (hBa.trans (hB45.mono hBa.size))
  have HBW := Lib.hid (HB1.out.trans (HB5.out.mono HB1.out.size))
  obtain ⟨k0, k1, k2, k3⟩ := HR6.out.cells
  obtain ⟨m0, m1, m2, m3⟩ := HR4.out.cells
  clear hBa hB45 hwa hw5 hb6 hb7 HB4 HB2 HR2 HRS
  cases hok : ok with
  | false =>
    subst hok
    go_wp2_with fail
    go_ret
    exact ⟨rfl, HBW.out⟩
  | true =>
    subst hok
    have hq : 0 ≤ pages ∧ pages ≤ 4096 ∧ 0 ≤ budget ∧ no ≤ 400 := by
      have h := HOK.out
      rw [HNO.out] at h
      simpa [runOK] using h
    have hcm : cm ≤ budget := by
      rw [← HCM.out, HOK.out, if_pos rfl]
      exact run_on budget pages.toNat ops hq.2.2.1 _
    have HXS2 := Lib.hid (show runO budget pages.toNat ops no = xs by rw [← HXS.out, HOK.out, if_pos rfl, HNO.out])
    have HOP2 := Lib.hid (show openL (runS budget pages.toNat ops no) = op by rw [← HOP.out, HOK.out, if_pos rfl, HNO.out])
    have HCM2 := Lib.hid (show (onCount (runS budget pages.toNat ops no) : Int) = cm by rw [← HCM.out, HOK.out, if_pos rfl, HNO.out])
    have hxl : xs.length = no := by rw [← HXS2.out]; exact runO_len _ _ _ _
    have hol : op.length ≤ 4096 := by
      have h1 := openL_len (runS budget pages.toNat ops no)
      have h2 := runS_len budget pages.toNat ops no
      rw [HOP2.out, h2] at h1
      omega
    have HXL := Lib.hid hxl
    have HSI := Lib.hid (sameInts_is op (by omega) w5 HR6.out.reads.2.2.1 HR6.out.reads.2.2.2 HR4.out.reads.2.2.1 HR4.out.reads.2.2.2)
    clear HXS HOP HCM HOK hxl
    go_upto_region 15 with (go_at_call 25; refine HSI.out.mono ?_; rintro e w6 ⟨rfl, hB6⟩; have HB6 := Lib.hid hB6; clear hB6)
    have HR6b := Lib.hid (HR6.out.below HB6.out)
    have HR7b := Lib.hid (HR4.out.below HB6.out)
    have HC6 := Lib.hid (Kd.C_below HCo.out (HB5.out.trans (HB6.out.mono HB5.out.size)))
    have HBW6 := Lib.hid (HBW.out.trans (HB6.out.mono HBW.out.size))
    clear HR6 HR4 HSI HBW k0 k1 k2 k3 m0 m1 m2 m3
    go_loopw [8, 9, 67] (fun kv av jv W => ∃ j : Nat, jv = .int .i64 j ∧ j ≤ no ∧ Hid (Gat w6 W w6.heap.size kv av (keptS budget pages.toNat ops j) (keptA budget pages.toNat ops j))) (fun _ _ jv _ => no - (intOf jv).toNat)
    case atStart => exact ⟨0, rfl, Nat.zero_le _, Lib.hid ⟨Kd.R_nil _ _ _ _ _, Kd.R_nil _ _ _ _ _, Below.refl _ _⟩⟩
    case round =>
      obtain ⟨j, rfl, hj, HG⟩ := hrel
      by_cases hlt : j < no
      · obtain ⟨ad, A0, c0, hA, g0, g1, g2, g3, g4, g5, hl5, hd⟩ := at_T52 HC6.out j (by omega) (by omega)
        rw [Int.toNat_natCast] at g0 g1 g2 g3 g4 g5
        subst hA
        replace g0 := pw_cell_below HG.out.b g0
        replace g1 := pw_cell_below HG.out.b g1
        replace g2 := pw_cell_below HG.out.b g2
        replace g3 := pw_cell_below HG.out.b g3
        replace g4 := pw_cell_below HG.out.b g4
        replace g5 := pw_cell_below HG.out.b g5
        obtain ⟨o, ho⟩ : ∃ o, rd_T52 ops (j : Int) = o := ⟨_, rfl⟩
        rw [ho] at g0 g1 g2 g3 g4 g5 hl5 hd
        have HO := Lib.hid ho
        have HD := Lib.hid hd
        clear ho hd
        go_upto_region 17 with fail
        obtain ⟨wt, hwt⟩ : ∃ x, wr.alloc (.cells #[.int .i64 o.f0, .int .i64 o.f1, .int .i64 o.f2, .int .u64 o.f3, .int .i64 o.f4, .slice A0 o.f5.length c0] 52) = x := ⟨_, rfl⟩
        obtain ⟨tb, htb⟩ : ∃ x, wr.heap.size = x := ⟨_, rfl⟩
        have hta := alloc_new wr (.cells #[.int .i64 o.f0, .int .i64 o.f1, .int .i64 o.f2, .int .u64 o.f3, .int .i64 o.f4, .slice A0 o.f5.length c0] 52)
        have hG := HG.out.below (below_alloc (Below.refl _ _) (.cells #[.int .i64 o.f0, .int .i64 o.f1, .int .i64 o.f2, .int .u64 o.f3, .int .i64 o.f4, .slice A0 o.f5.length c0] 52))
        have hKo : k52.K w6 o [.int .i64 o.f0, .int .i64 o.f1, .int .i64 o.f2, .int .u64 o.f3, .int .i64 o.f4, .slice A0 o.f5.length c0] := k52_mk _ _ hl5 HD.out
        rw [hwt] at hta hG ⊢
        rw [htb] at hta ⊢
        have HG2 := Lib.hid hG
        have HTA := Lib.hid hta
        have HKO := Lib.hid hKo
        clear g0 g1 g2 g3 g4 g5 hta hG hKo hwt htb HG
        obtain ⟨k0, k1, k2, k3⟩ := (HR6b.out.below HG2.out.b).cells
        obtain ⟨m0, m1, m2, m3⟩ := (HR7b.out.below HG2.out.b).cells
        obtain ⟨ad2, A6, c6, hA2, p0, p1, pl, pd⟩ := at_T54 HR6b.out.reads.1 j (by omega) (by rw [HXL.out]; omega)
        obtain ⟨ad4, A8, c8, hA4, q0, q1, ql, qd⟩ := at_T54 HR7b.out.reads.1 j (by omega) (by rw [HXL.out]; omega)
        rw [Int.toNat_natCast] at p0 p1 q0 q1
        subst hA2 hA4
        obtain ⟨p, hp2⟩ : ∃ p, rd_T54 xs (j : Int) = p := ⟨_, rfl⟩
        rw [hp2] at p0 p1 pl pd q0 q1
        have HP := Lib.hid hp2
        have HPK := Lib.hid (show k54.K w6 p [.int .i64 p.f0, .slice A6 p.f1.length c6] from k54_mk _ _ pl pd)
        have HP0 := Lib.hid (And.intro p0 p1)
        replace p0 := pw_cell_below HG2.out.b p0
        replace q0 := pw_cell_below HG2.out.b q0
        have hjx : j < xs.length := by rw [HXL.out]; exact hlt
        have hji : (j : Int) < (xs.length : Int) := by omega
        clear hp2 pl pd ql qd q1 p1
        have hpo : p = ansO budget (runS budget pages.toNat ops j) (ops.getD j zO) := by
          rw [← HP.out, rdA, ← HXS2.out]
          exact runO_at budget pages.toNat ops no j hlt
        have hoo : ops.getD j zO = o := by rw [← HO.out, rdO]
        have hk1 : (p.f0 = 0 → keptS budget pages.toNat ops (j + 1) = keptS budget pages.toNat ops j ++ [o] ∧ keptA budget pages.toNat ops (j + 1) = keptA budget pages.toNat ops j ++ [p]) ∧ (p.f0 ≠ 0 → keptS budget pages.toNat ops (j + 1) = keptS budget pages.toNat ops j ∧ keptA budget pages.toNat ops (j + 1) = keptA budget pages.toNat ops j) := by
          rw [keptS, keptA, ← hpo, hoo]
          exact ⟨fun h => by rw [if_pos h, if_pos h]; exact ⟨rfl, rfl⟩, fun h => by rw [if_neg h, if_neg h]; exact ⟨rfl, rfl⟩⟩
        have HK := Lib.hid hk1
        clear hk1 hpo hoo
        by_cases hz : p.f0 = 0
        · have hz1 : (p.f0 == 0) = true := by simpa using hz
          have HZ := Lib.hid hz
          clear hz
          go_quiet (fail)
          obtain ⟨wq, hwq⟩ : ∃ x, wt.drewN nq = x := ⟨_, rfl⟩
          have HG3 := Lib.hid (show Gat w6 wq w6.heap.size u8 u9 (keptS budget pages.toNat ops j) (keptA budget pages.toNat ops j) from by rw [← hwq]; exact HG2.out.drewN nq)
          have HTA3 := Lib.hid (show wq.heap[tb]? = some (.cells #[.int .i64 o.f0, .int .i64 o.f1, .int .i64 o.f2, .int .u64 o.f3, .int .i64 o.f4, .slice A0 o.f5.length c0] 52 (0, 0)) from by rw [← hwq]; exact HTA.out)
          rw [hwq]
          clear k0 k1 k2 k3 m0 m1 m2 m3 p0 q0 HG2 HTA hwq
          obtain ⟨k0, k1, k2, k3⟩ := (HR6b.out.below HG3.out.b).cells
          have p0 := pw_cell_below HG3.out.b HP0.out.1
          have p1 := pw_cell_below HG3.out.b HP0.out.2
          have t0 := bcell HTA3.out 0
          have t1 := bcell HTA3.out 1
          have t2 := bcell HTA3.out 2
          have t3 := bcell HTA3.out 3
          have t4 := bcell HTA3.out 4
          have t5 := bcell HTA3.out 5
          simp only [List.getElem?_toArray, List.getElem?_cons_succ, List.getElem?_cons_zero] at t0 t1 t2 t3 t4 t5
          go_wp2_with (first | (at_builtin; refine Kd.R_append (lent k52 w6) (w0 := w6) w6.heap.size rfl _ _ 43 52 (.agg #[.int .i64 0, .int .i64 0, .int .i64 0, .int .u64 0, .int .i64 0, .slice none 0 0]) 64 rfl Try.underlying43 infoO rfl (Nat.zero_lt_succ 5) (by omega) u8 (keptS budget pages.toNat ops j) o [.int .i64 o.f0, .int .i64 o.f1, .int .i64 o.f2, .int .u64 o.f3, .int .i64 o.f4, .slice A0 o.f5.length c0] (fun _ => True) (fun _ => False) rfl rfl HKO.out (fun _ e => e.elim) (fun _ _ => trivial) HG3.out.k HG3.out.b HG3.out.b.size (by have := keptS_len budget pages.toNat ops j; omega) ?_; intro v1 w8 hR8 hB8 hg8 hat8; have HG4 := Lib.hid (HG3.out.addk (Nat.le_refl _) hR8 hB8 hg8); clear hR8 hB8 hg8 hat8; obtain ⟨k0', k1', k2', k3'⟩ := (HR6b.out.below HG4.out.b).cells; have p0b := pw_cell_below HG4.out.b HP0.out.1; have p1b := pw_cell_below HG4.out.b HP0.out.2) | (at_builtin; refine Kd.R_append (lent k54 w6) (w0 := w6) w6.heap.size rfl _ _ 46 54 (.agg #[.int .i64 0, .slice none 0 0]) 32 rfl Try.underlying46 SpR.info54 rfl (Nat.zero_lt_succ 1) (by omega) u9 (keptA budget pages.toNat ops j) p [.int .i64 p.f0, .slice A6 p.f1.length c6] (fun _ => True) (fun _ => False) rfl rfl HPK.out (fun _ e => e.elim) (fun _ _ => trivial) HG4.out.a HG4.out.b HG4.out.b.size (by have := keptA_len budget pages.toNat ops j; have := keptS_len budget pages.toNat ops j; omega) ?_; intro v2 w9 hR9 hB9 hg9 hat9; have HG5 := Lib.hid (HG4.out.adda (Nat.le_refl _) hR9 hB9 hg9); clear hR9 hB9 hg9 hat9))
          go_roundw
          case rel => exact ⟨j + 1, by go_num, by omega, by rw [(HK.out.1 HZ.out).1, (HK.out.1 HZ.out).2]; exact HG5⟩
          case measure => simp [intOf]; omega
        · have hz1 : (p.f0 == 0) = false := by simpa using hz
          have HZ := Lib.hid hz
          clear hz
          go_quiet (fail)
          obtain ⟨wq, hwq⟩ : ∃ x, wt.drewN nq = x := ⟨_, rfl⟩
          have HG3 := Lib.hid (show Gat w6 wq w6.heap.size u8 u9 (keptS budget pages.toNat ops j) (keptA budget pages.toNat ops j) from by rw [← hwq]; exact HG2.out.drewN nq)
          have HTA3 := Lib.hid (show wq.heap[tb]? = some (.cells #[.int .i64 o.f0, .int .i64 o.f1, .int .i64 o.f2, .int .u64 o.f3, .int .i64 o.f4, .slice A0 o.f5.length c0] 52 (0, 0)) from by rw [← hwq]; exact HTA.out)
          rw [hwq]
          clear k0 k1 k2 k3 m0 m1 m2 m3 p0 q0 HG2 HTA hwq
          obtain ⟨k0, k1, k2, k3⟩ := (HR6b.out.below HG3.out.b).cells
          have p0 := pw_cell_below HG3.out.b HP0.out.1
          have p1 := pw_cell_below HG3.out.b HP0.out.2
          go_wp2_with fail
          go_roundw
          case rel => exact ⟨j + 1, by go_num, by omega, by rw [(HK.out.2 HZ.out).1, (HK.out.2 HZ.out).2]; exact HG3⟩
          case measure => simp [intOf]; omega
      · obtain rfl : no = j := by omega
        obtain ⟨Ak, ck, rfl, hck, hCk⟩ := Kd.R_reads HG.out.k
        have HCK := Lib.hid (lent_C HG.out.b hCk)
        obtain ⟨Aa, ca, rfl, hca, hCa⟩ := Kd.R_reads HG.out.a
        have HCA := Lib.hid (lent_C HG.out.b hCa)
        obtain ⟨hks, hka⟩ := kept_run budget pages.toNat ops no
        obtain ⟨ks, hke⟩ : ∃ x, keptS budget pages.toNat ops no = x := ⟨_, rfl⟩
        obtain ⟨la, hla⟩ : ∃ x, keptA budget pages.toNat ops no = x := ⟨_, rfl⟩
        have hkl := keptS_len budget pages.toNat ops no
        have hal := keptA_len budget pages.toNat ops no
        have hkz := keptA_zero budget pages.toNat ops no
        have hkm := keptS_mem budget pages.toNat ops no (by rw [HNO.out]; exact Nat.le_refl _)
        rw [hke] at hck hks hka hkl hal hkm HCK ⊢
        rw [hla] at hca hka hal hkz HCA ⊢
        obtain ⟨nk, hnk⟩ : ∃ x, ks.length = x := ⟨_, rfl⟩
        have hrun := SpR.run_is wr pages budget Ak ck ks HPW.out.1 HPW.out.2 HCK.out hck (by omega) (fun o ho => HF.out o (hkm o ho))
        have hrk : runOK pages budget ks.length = true := by unfold runOK; exact decide_eq_true ⟨hq.1, hq.2.1, hq.2.2.1, by omega⟩
        rw [hrk, if_pos rfl, if_pos rfl, if_pos rfl, hks, hka, HCM2.out, HOP2.out, hnk] at hrun
        have HRUN := Lib.hid hrun
        rw [hnk] at hck hkl hal HCK ⊢
        rw [hal] at hca HCA ⊢
        have HAL := Lib.hid hal
        have HKZ := Lib.hid hkz
        have HBR := Lib.hid HG.out.b
        clear hrun hrk hks hka hke hla hnk hal hkz hkm hCk hCa HG
        go_upto_region 24 with (go_at_call 23; refine HRUN.out.mono ?_; intro e w10 hRn; obtain ⟨B10, A10, c10, A11, c11, rfl, hB10, hR10⟩ := rep_of hRn; have HB10 := Lib.hid hB10; have HR10 := Lib.hid hR10; clear hRn hB10 hR10)
        obtain ⟨b12, hb12⟩ : ∃ x, w10.heap.size = x := ⟨_, rfl⟩
        obtain ⟨w11, hw11⟩ : ∃ x, w10.alloc (.cells #[.bool true, .slice A10 la.length c10, .int .i64 cm, .slice A11 op.length c11] 48) = x := ⟨_, rfl⟩
        rw [HAL.out] at hw11 ⊢
        rw [hw11, hb12]
        have hB11 : Below wr.heap.size wr w11 := by rw [← hw11]; exact below_alloc HB10.out _
        rw [hb12] at HR10
        rw [HAL.out, hw11] at HR10
        have HR12 := Lib.hid HR10
        have h611 : Below w6.heap.size w6 w11 := HBR.out.trans (hB11.mono HBR.out.size)
        obtain ⟨k0, k1, k2, k3⟩ := (HR6b.out.below h611).cells
        obtain ⟨n0, n1, n2, n3⟩ := HR12.out.cells
        rw [HAL.out] at n1
        have HSI2 := Lib.hid (sameInts_is op (by omega) w11 HR12.out.reads.2.2.1 HR12.out.reads.2.2.2 (HR6b.out.below h611).reads.2.2.1 (HR6b.out.below h611).reads.2.2.2)
        have HB11 := Lib.hid hB11
        have H611 := Lib.hid h611
        clear HR10 HB10 hB11 h611 hw11 hb12 HRUN
        go_upto_region 27 with (go_at_call 25; refine HSI2.out.mono ?_; rintro e w12 ⟨rfl, hB12⟩; have HB12 := Lib.hid hB12; clear hB12; obtain ⟨k0', k1', k2', k3'⟩ := (HR12.out.below HB12.out).cells; rw [HAL.out] at k1')
        have HL12 := Lib.hid (HR12.out.below HB12.out).reads.1
        have HA12 := Lib.hid (Kd.C_below HCA.out (HB11.out.trans (HB12.out.mono HB11.out.size)))
        have H612 := Lib.hid (H611.out.trans (HB12.out.mono H611.out.size))
        rw [HAL.out] at HL12
        clear k0 k1 k2 k3 n0 n1 n2 n3 k0' k1' k2' k3' HSI2
        go_loopw [138] (fun iv W => ∃ i : Nat, iv = .int .i64 i ∧ i ≤ nk ∧ Hid (Below w12.heap.size w12 W)) (fun iv _ => nk - (intOf iv).toNat)
        case atStart => exact ⟨0, rfl, Nat.zero_le _, Lib.hid (Below.refl _ _)⟩
        case round =>
          obtain ⟨i, rfl, hi, HB⟩ := hrel
          by_cases hin : i < nk
          · obtain ⟨ad6, A13, c13, hA, p0, p1, pl, pd⟩ := at_T54 HL12.out i (by omega) (by omega)
            obtain ⟨ad7, A14, c14, hA', q0, q1, ql, qd⟩ := at_T54 HA12.out i (by omega) (by omega)
            rw [Int.toNat_natCast] at p0 p1 q0 q1
            subst hA hA'
            obtain ⟨p, hp2⟩ : ∃ p, rd_T54 la (i : Int) = p := ⟨_, rfl⟩
            have hpz : p.f0 = 0 := HKZ.out p (by rw [← hp2, rdA]; exact getD_mem (by rw [HAL.out]; exact hin))
            rw [hp2] at p0 p1 pl pd q0 q1 ql qd
            rw [hpz] at p0 q0
            replace p0 := pw_cell_below HB.out p0
            replace p1 := pw_cell_below HB.out p1
            have HPD := Lib.hid (Kd.C_below pd HB.out)
            have HQD := Lib.hid (Kd.C_below qd HB.out)
            have HQ1 := Lib.hid q1
            clear hp2 hpz pd qd q0 q1
            go_upto_region 29 with fail
            obtain ⟨wt, hwt⟩ : ∃ x, wr.alloc (.cells #[.int .i64 0, .slice A13 p.f1.length c13] 54) = x := ⟨_, rfl⟩
            obtain ⟨tb, htb⟩ : ∃ x, wr.heap.size = x := ⟨_, rfl⟩
            have hta := alloc_new wr (.cells #[.int .i64 0, .slice A13 p.f1.length c13] 54)
            have hbt := below_alloc (Below.refl wr.heap.size wr) (.cells #[.int .i64 0, .slice A13 p.f1.length c13] 54)
            rw [hwt] at hta hbt ⊢
            rw [htb] at hta ⊢
            have hB2 := HB.out.trans (hbt.mono HB.out.size)
            have HPT := Lib.hid (Kd.C_below HPD.out hbt)
            have HQT := Lib.hid (Kd.C_below HQD.out hbt)
            have HB2 := Lib.hid hB2
            have t0 := bcell hta 0
            have t1 := bcell hta 1
            simp only [List.getElem?_toArray, List.getElem?_cons_succ, List.getElem?_cons_zero] at t0 t1
            have q1 := pw_cell_below hB2 HQ1.out
            have hii : (0 : Int) ≤ (i : Int) := by omega
            have hik : (i : Int) < (nk : Int) := by omega
            clear p0 p1 hta hbt hB2 hwt htb HPD HQD
            go_quiet ((go_at_call 26; exact Calls.quiet_of (sameBytes_q p.f1 _ (Kd.C_drewN HPT.out _) pl (Kd.C_drewN HQT.out _) ql)))
            clear t0 t1 q1
            go_wp2_with fail
            go_roundw
            case rel => exact ⟨i + 1, by go_num, by omega, Lib.hid (pw_below_drewN HB2.out nq)⟩
            case measure => simp [intOf]; omega
          · obtain rfl : nk = i := by omega
            have H6w := Lib.hid (H612.out.trans (HB.out.mono H612.out.size))
            have HWW := Lib.hid (HBW6.out.trans (H6w.out.mono HBW6.out.size))
            have HR7 := Lib.hid (HR7b.out.below H6w.out)
            have HC7 := Lib.hid (Kd.C_below HC6.out H6w.out)
            clear HB HL12 HA12 H612 HR12 H611 HB11 HB12 HKZ HAL HCA HCK HBR hck hca
            obtain ⟨m0, m1, m2, m3⟩ := HR7.out.cells
            by_cases h0 : op.length = 0
            · have hz : ((op.length : Int) == 0) = true := by simpa using h0
              clear h0
              go_wp2_with fail
              go_ret
              exact ⟨rfl, HWW.out⟩
            · have hz : ((op.length : Int) == 0) = false := by simpa using h0
              by_cases h4 : 400 < no + 2
              · go_wp2_with fail
                go_ret
                exact ⟨rfl, HWW.out⟩
              · go_upto_region 34 with fail
                obtain ⟨D0, hD0⟩ : ∃ D, ([1, 2, 3] : List Int) ++ s = D := ⟨_, rfl⟩
                have hDl : D0.length = s.length + 3 := by rw [← hD0]; simp
                have HD0 := Lib.hid hD0
                have HDL := Lib.hid hDl
                have HR77 := Lib.hid (Kd.C_alloc (Kd.C_below HC.out HWW.out) (.cells #[.int .u8 1, .int .u8 2, .int .u8 3] 5))
                clear hD0 hDl m0 m1 m2 m3
                go_upto_if 173 with (at_builtin; refine Kd.R_append_row (Value.int .u8) 0 (w0 := wr) wr.heap.size rfl _ _ 39 5 (.int .u8 0) 1 rfl Try.underlying39 SpL.info5 rfl (by omega) (.slice (some ⟨wr.heap.size, 0, none⟩) 3 3) [1, 2, 3] s A s.length c (fun _ => True) rfl rfl (fun _ _ => trivial) (lit3 wr) HR77.out (below_alloc (Below.refl _ _) _) (by simp) (by simp; omega) ?_; intro v13 w13 hR13 hB13 hg13 hat13; rw [HD0.out] at hR13; obtain ⟨A15, c15, rfl, hc15, hC15⟩ := Kd.R_reads hR13; have HC15 := Lib.hid hC15; have HB13 := Lib.hid hB13; clear hR13 hB13 hg13 hat13 hC15)
                have hdl := HDL.out
                go_cut [15] (fun v W => ∃ (ad : Addr) (D : List Int) (cD : Nat), v = .slice (some ad) D.length cD ∧ (3 ≤ D.length ∧ D.length ≤ 1024 ∧ D.length ≤ cD) ∧ Hid ((Kd.int .u8).C W (some ad) D.length D) ∧ Hid (Below wr.heap.size wr W))
                case first =>
                  obtain ⟨ad15, hA15, _⟩ := HC15.out.2.2 (by omega)
                  subst hA15
                  by_cases hbg : 1024 < D0.length
                  · have htl : (D0.take 1024).length = 1024 := by rw [List.length_take]; omega
                    have HT := Lib.hid (Kd.C_take (m := 1024) HC15.out (by omega))
                    have HTL := Lib.hid htl
                    clear htl
                    go_wp2_with fail
                    go_meet
                    exact ⟨ad15, D0.take 1024, c15, by rw [HTL.out], by rw [HTL.out]; omega, HT, HB13⟩
                  · go_wp2_with fail
                    go_meet
                    exact ⟨ad15, D0, c15, rfl, by omega, HC15, HB13⟩
                case rest =>
                  obtain ⟨ad, D, cD, rfl, hD, HCD, HBD⟩ := hcut
                  clear HC15 HB13 hdl
                  obtain ⟨kk, hk1, hk2, hk3⟩ := openL_at (A := runS budget pages.toNat ops no) (i := s.length % op.length) (by rw [HOP2.out]; exact Nat.mod_lt _ (by omega))
                  rw [HOP2.out] at hk1
                  have hkl : kk ≤ 4096 := by
                    have h2 := runS_len budget pages.toNat ops no
                    rw [h2] at hk3
                    omega
                  obtain ⟨ad5, cc5, hA5, hcl5, hK5, hcell5⟩ := Kd.C_get (HR7.out.below HBD.out).reads.2.2.1 0 ((s.length % op.length : Nat) : Int) (by omega) (by have := Nat.mod_lt s.length (show op.length > 0 by omega); omega)
                  rw [Int.toNat_natCast, hk1] at hK5
                  obtain rfl : cc5 = [.int .i64 (kk : Int)] := hK5
                  have c37 := hcell5 0 (.int .i64 (kk : Int)) rfl
                  obtain ⟨qi, hqi⟩ : ∃ x, s.length % op.length = x := ⟨_, rfl⟩
                  have hqlt : qi < op.length := by rw [← hqi]; exact Nat.mod_lt _ (by omega)
                  have hqi0 : (0 : Int) ≤ (qi : Int) := by omega
                  have hqi1 : (qi : Int) < (op.length : Int) := by omega
                  rw [Int.toNat_natCast, hqi, show (Kd.int .i64).sz = 1 from rfl, Nat.mul_one, Nat.add_zero] at c37
                  subst hA5
                  obtain ⟨m0, m1, m2, m3⟩ := (HR7.out.below HBD.out).cells
                  obtain ⟨a, ha⟩ : ∃ a : Int, (kk : Int) * 1024 = a := ⟨_, rfl⟩
                  have HMD := Lib.hid (tmod_nat s.length op.length qi hqi)
                  have HKK := Lib.hid (And.intro hk2 (And.intro hkl ha))
                  have HWR := Lib.hid (And.intro (wu (x := (kk : Int)) (by omega) (by omega)) ((wu (x := (kk : Int) * 1024) (by omega) (by omega)).trans ha))
                  clear hk1 hk2 hk3 hcell5 ha hqi hkl
                  obtain ⟨hw1, hw2⟩ := HWR.out
                  have hmod := HMD.out
                  go_upto_region 37 with fail
                  go_quiet (fail)
                  obtain ⟨wq, hwq⟩ : ∃ x, wc.drewN nq = x := ⟨_, rfl⟩
                  have hBq : Below wr.heap.size wr wq := by rw [← hwq]; exact pw_below_drewN HBD.out nq
                  have HDq := Lib.hid (show (Kd.int .u8).C wq (some ad) D.length D from by rw [← hwq]; exact Kd.C_drewN HCD.out nq)
                  rw [hwq]
                  have HCq := Lib.hid (Kd.C_below HC7.out hBq)
                  have HWq := Lib.hid (HWW.out.trans (hBq.mono HWW.out.size))
                  have HHD := Lib.hid hD.2.2
                  clear hwq hBq hw1 hw2 hmod c37 m0 m1 m2 m3 HBD HCD HC7 HWW HR7 H6w
                  obtain ⟨mo, hmo⟩ : ∃ x, ops ++ [stO a D, ldO a D.length] = x := ⟨_, rfl⟩
                  have HMO := Lib.hid hmo
                  have HML := Lib.hid (show mo.length = no + 2 from by rw [← hmo]; simp [HNO.out])
                  clear hmo
                  go_upto_region 39 with (first | (at_builtin; refine Kd.R_append_rows (lent k52 wq) (Rr := k52.K wq) (w0 := wq) wq.heap.size rfl _ _ 43 52 (.agg #[.int .i64 0, .int .i64 0, .int .i64 0, .int .u64 0, .int .i64 0, .slice none 0 0]) 64 rfl Try.underlying43 infoO rfl (Nat.zero_lt_succ 5) (by omega) (.slice none 0 0) [] ops Ao no co (fun _ => True) (fun _ => False) rfl rfl (Kd.R_nil _ _ _ _ _) HCq.out (fun _ _ h => h) (fun _ e => e.elim) (fun _ _ => trivial) (Below.refl _ _) (Nat.le_refl _) (by simp; omega) ?_; intro v14 w14 hR14 hB14 hg14 hat14; rw [List.nil_append] at hR14; have HR14 := Lib.hid hR14; have HB14 := Lib.hid hB14; clear hR14 hB14 hg14 hat14) | (at_builtin; refine Kd.R_append_rows (lent k52 wq) (Rr := k52.K wq) (w0 := wq) wq.heap.size rfl _ _ 43 52 (.agg #[.int .i64 0, .int .i64 0, .int .i64 0, .int .u64 0, .int .i64 0, .slice none 0 0]) 64 rfl Try.underlying43 infoO rfl (Nat.zero_lt_succ 5) (by omega) v14 ops [stO a D, ldO a D.length] (some ⟨w14.heap.size, 0, none⟩) 2 2 (fun _ => True) (fun _ => False) rfl rfl (Kd.R_alloc HR14.out _) (lit2 wq w14 ad D cD a HHD.out HDq.out) (fun _ _ h => h) (fun _ e => e.elim) (fun _ _ => trivial) (below_alloc HB14.out _) (by simp; have := HB14.out.size; omega) (by rw [HNO.out]; omega) ?_; intro v15 w15 hR15 hB15 hg15 hat15; rw [HMO.out] at hR15; obtain ⟨A17, c17, rfl, hc17, hC17⟩ := Kd.R_reads hR15; have HC17 := Lib.hid (lent_C hB15 hC17); have HB15 := Lib.hid hB15; clear hR15 hB15 hg15 hat15 hC17))
                  have hkk := HKK.out
                  have haa : ((kk * 1024 : Nat) : Int) = a := by rw [← hkk.2.2]; push_cast; rfl
                  have hlt2 := last_two budget pages.toNat ops kk D (by rw [HNO.out]; exact hkk.1) hkk.2.1 hD.2.1
                  rw [haa, HMO.out, HNO.out, HXS2.out] at hlt2
                  have hrun := SpR.run_is w15 pages budget A17 c17 mo HPW.out.1 HPW.out.2 HC17.out hc17 (by rw [HML.out]; omega) (fun o ho => by
                    rw [← HMO.out] at ho
                    rcases List.mem_append.1 ho with ho | ho
                    · exact HF.out o ho
                    · have h9 : o.f3 = a := by
                        simp only [List.mem_cons, List.not_mem_nil, or_false] at ho
                        rcases ho with rfl | rfl <;> rfl
                      rw [h9]
                      omega)
                  have hrk : runOK pages budget mo.length = true := by unfold runOK; exact decide_eq_true ⟨hq.1, hq.2.1, hq.2.2.1, by rw [HML.out]; omega⟩
                  obtain ⟨cm2, hcm2⟩ : ∃ x : Int, (onCount (runS budget pages.toNat mo mo.length) : Int) = x := ⟨_, rfl⟩
                  obtain ⟨op2, hop2⟩ : ∃ x, openL (runS budget pages.toNat mo mo.length) = x := ⟨_, rfl⟩
                  rw [hrk, if_pos rfl, if_pos rfl, if_pos rfl, hcm2, hop2, HML.out, hlt2] at hrun
                  obtain ⟨ya, hya⟩ : ∃ x, xs ++ [⟨0, []⟩, ⟨0, D⟩] = x := ⟨_, rfl⟩
                  rw [hya] at hrun
                  have HYL := Lib.hid (show ya.length = no + 2 from by rw [← hya]; simp [HXL.out])
                  have hy0 : rd_T54 ya ((no : Nat) : Int) = ⟨0, []⟩ := by
                    rw [rdA, ← hya, ← HXL.out, List.getD_eq_getElem?_getD, List.getElem?_append_right (Nat.le_refl _)]
                    simp
                  have hy1 : rd_T54 ya (((no + 1 : Nat)) : Int) = ⟨0, D⟩ := by
                    rw [rdA, ← hya, ← HXL.out, List.getD_eq_getElem?_getD, List.getElem?_append_right (by omega)]
                    simp
                  have HY := Lib.hid (And.intro hy0 hy1)
                  have HRUN := Lib.hid hrun
                  rw [HML.out]
                  clear hrun hrk hcm2 hop2 hya hy0 hy1 hlt2 haa hkk
                  go_upto_region 40 with (go_at_call 23; refine HRUN.out.mono ?_; intro e w16 hRn; obtain ⟨B16, A18, c18, A19, c19, rfl, hB16, hR16⟩ := rep_of hRn; have HB16 := Lib.hid hB16; have HR16 := Lib.hid hR16; clear hRn hB16 hR16)
                  obtain ⟨b18, hb18⟩ : ∃ x, w16.heap.size = x := ⟨_, rfl⟩
                  obtain ⟨w17, hw17⟩ : ∃ x, w16.alloc (.cells #[.bool true, .slice A18 ya.length c18, .int .i64 cm2, .slice A19 op2.length c19] 48) = x := ⟨_, rfl⟩
                  have hR18 := HR16.out
                  have hB17 : Below w15.heap.size w15 w17 := by rw [← hw17]; exact below_alloc HB16.out _
                  rw [hw17, hb18] at hR18
                  rw [HYL.out] at hw17 ⊢
                  rw [hw17, hb18]
                  obtain ⟨n0, n1, n2, n3⟩ := hR18.cells
                  rw [HYL.out] at n1
                  have hC18 := hR18.reads.1
                  rw [HYL.out] at hC18
                  obtain ⟨ad8, A20, c20, hA8, e0, e1, el, ed⟩ := at_T54 hC18 ((no : Nat) : Int) (by omega) (by omega)
                  obtain ⟨ad9, A21, c21, hA9, f0, f1, fl, fd⟩ := at_T54 hC18 ((no + 1 : Nat) : Int) (by omega) (by omega)
                  subst hA8
                  obtain rfl := Option.some.inj hA9
                  rw [Int.toNat_natCast] at e0 e1 f0 f1
                  rw [HY.out.1] at e0
                  rw [HY.out.2] at f1 fl fd
                  have hsb := sameBytes_is D w17 fd fl (Kd.C_below HDq.out (HB15.out.trans (hB17.mono HB15.out.size))) HHD.out
                  have HSB2 := Lib.hid hsb
                  have HEND := Lib.hid (HWq.out.trans ((HB15.out.trans (hB17.mono HB15.out.size)).mono HWq.out.size))
                  simp only at e0 f1
                  clear hw17 hb18 hR18 hC18 hB17 hsb e1 el ed f0 fl fd hA9 HR16 HB16 HRUN
                  go_wp2_with (go_at_call 26; refine HSB2.out.mono ?_; rintro e w18 ⟨rfl, hB18⟩; have HB18 := Lib.hid hB18; clear hB18)
                  go_ret
                  exact ⟨rfl, HEND.out.trans (HB18.out.mono HEND.out.size)⟩
end Go.Proofs.Ytklobepkihdbkaa.FsL
