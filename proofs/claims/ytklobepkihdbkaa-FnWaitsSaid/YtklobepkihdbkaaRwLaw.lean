/- The law on RunWaiting. -/
import Derived.Test.YtklobepkihdbkaaRwI
import Derived.Test.YtklobepkihdbkaaRwS
import Derived.Test.YtklobepkihdbkaaRwSb
import Derived.Test.YtklobepkihdbkaaInS
import Derived.OpenShut
namespace Go.Proofs.Ytklobepkihdbkaa.RwL
open Go.RowKit Go.Proofs.Ytklobepkihdbkaa.PFnExactWaitPush Go.Proofs.YtklobepkihdbkaaW.PrintWords Go.Proofs.YtklobepkihdbkaaW.PrintLast Go.Proofs.YtklobepkihdbkaaW.PrintMore Wp WpG WpI WpJ Rw RwIb
set_option linter.unusedVariables false
set_option linter.unusedSimpArgs false
def ans (mix limit : Int) (slots draws : List Int) (r : List Int) (b : Bool) : Prop := (runOk mix limit slots ∧ r = lefts mix.toNat limit slots draws slots.length ∧ b = true) ∨ (¬ runOk mix limit slots ∧ r = [] ∧ b = false)
theorem impl_is {As Ad : Option Addr} {cs cd : Nat} {slots draws : List Int} {mix limit : Int} {r : List Int} {b : Bool} (w : World) (hs : (Kd.int .i64).C w As slots.length slots) (hcs : slots.length ≤ cs) (hd : (Kd.int .i64).C w Ad draws.length draws) (hcd : draws.length ≤ cd) (hl : slots.length ≤ 1048576) (hl2 : draws.length ≤ 1048576) (h : ans mix limit slots draws r b) :
    Calls Try.prog 17 #[.int .i64 mix, .int .i64 limit, .slice As slots.length cs, .slice Ad draws.length cd] w fun e w' => ∃ v : Value, e = .returned (.tuple #[v, .bool b]) ∧ (Kd.int .i64).R 3 w' w.heap.size (fun _ => True) v r ∧ Below w.heap.size w w' := by
  rcases h with ⟨hg, rfl, rfl⟩ | ⟨hg, rfl, rfl⟩
  · obtain ⟨m, rfl⟩ := Int.eq_ofNat_of_zero_le hg.1
    rw [Int.toNat_natCast]
    exact RwI.run_good w hs hcs hd hcd (by have := hg.2.1; omega) hg.2.2.1 hg.2.2.2.1 hg.2.2.2.2.1 hg.2.2.2.2.2 hl2
  · exact (RwIb.run_bad w hs hcs hl hg).mono fun e w' h => ⟨_, h.1, Kd.R_nil _ _ _ _ _, h.2⟩
theorem spec_is {As Ad : Option Addr} {cs cd : Nat} {slots draws : List Int} {mix limit : Int} {r : List Int} {b : Bool} (w : World) (hs : (Kd.int .i64).C w As slots.length slots) (hcs : slots.length ≤ cs) (hd : (Kd.int .i64).C w Ad draws.length draws) (hcd : draws.length ≤ cd) (hl : slots.length ≤ 1048576) (hl2 : draws.length ≤ 1048576) (h : ans mix limit slots draws r b) :
    Calls Try.prog 15 #[.int .i64 mix, .int .i64 limit, .slice As slots.length cs, .slice Ad draws.length cd] w fun e w' => ∃ v : Value, e = .returned (.tuple #[v, .bool b]) ∧ (Kd.int .i64).R 3 w' w.heap.size (fun _ => True) v r ∧ Below w.heap.size w w' := by
  rcases h with ⟨hg, rfl, rfl⟩ | ⟨hg, rfl, rfl⟩
  · obtain ⟨m, rfl⟩ := Int.eq_ofNat_of_zero_le hg.1
    rw [Int.toNat_natCast]
    exact RwS.run_good w hs hcs hd hcd (by have := hg.2.1; omega) hg.2.2.1 hg.2.2.2.1 hg.2.2.2.2.1 hg.2.2.2.2.2 hl2
  · exact (RwSb.run_bad w hs hcs hl hg).mono fun e w' h => ⟨_, h.1, Kd.R_nil _ _ _ _ _, h.2⟩
theorem own_of {w0 w' : World} {B0 e : Nat} {v : Value} {xs : List Int} (h : (Kd.int .i64).R e w' B0 (fun _ => True) v xs) (hle : w0.heap.size ≤ B0) : (Kd.int .i64).R e w' w0.heap.size (fun k => B0 ≤ k ∧ k < w'.heap.size) v xs :=
  Kd.R_lower (Kd.R_mono (Kd.R_bound h) (fun k hk => ⟨hk.2.1, hk.2.2.1⟩)) hle
set_option maxHeartbeats 4000000 in
theorem runWaiting_law {w : World} (mix limit : Int) (As : Option Addr) (cs : Nat) (slots : List Int) (Ad : Option Addr) (cd : Nat) (draws : List Int) (wm : (Lit.int .i64 mix).wf = true) (wl : (Lit.int .i64 limit).wf = true) (hs : (Kd.int .i64).C w As slots.length slots) (hcs : slots.length ≤ cs) (hws : ∀ x ∈ slots, (Lit.int .i64 x).wf = true) (hys : slots.length * 8 ≤ 140737488351232) (hd : (Kd.int .i64).C w Ad draws.length draws) (hcd : draws.length ≤ cd) (hwd : ∀ x ∈ draws, (Lit.int .i64 x).wf = true) (hyd : draws.length * 8 ≤ 140737488351232) :
    Calls Try.prog 4 #[.int .i64 mix, .int .i64 limit, .slice As slots.length cs, .slice Ad draws.length cd] w fun e w' => e = .returned (.bool true) ∧ Below w.heap.size w w' := by
  by_cases hbig : 1048576 < slots.length
  · go_enter Try.func4, Try.ntmps4
    go_wp2
    go_ret
    exact ⟨rfl, Below.refl _ _⟩
  by_cases hbig2 : 1048576 < draws.length
  · go_enter Try.func4, Try.ntmps4
    go_wp2
    go_ret
    exact ⟨rfl, Below.refl _ _⟩
  have hl1 : slots.length ≤ 1048576 := by omega
  have hl2 : draws.length ≤ 1048576 := by omega
  obtain ⟨r, b, hans, hr1⟩ : ∃ r b, ans mix limit slots draws r b ∧ r.length ≤ 1048576 := by
    by_cases h : runOk mix limit slots
    · exact ⟨_, _, .inl ⟨h, rfl, rfl⟩, by rw [lefts_len]; exact hl1⟩
    · exact ⟨_, _, .inr ⟨h, rfl, rfl⟩, by simp⟩
  have HAN := Lib.hid hans
  have HS := Lib.hid hs
  have HD := Lib.hid hd
  have HTs := Lib.hid (InS.to_is slots hl1 (slots.length + 1) (Nat.lt_succ_self _))
  have HTd := Lib.hid (InS.to_is draws hl2 (draws.length + 1) (Nat.lt_succ_self _))
  have HEs := Lib.hid (InS.eq_is slots hl1 (slots.length + 1) (Nat.lt_succ_self _))
  have HEd := Lib.hid (InS.eq_is draws hl2 (draws.length + 1) (Nat.lt_succ_self _))
  have HEr := Lib.hid (InS.eq_is r hr1 (r.length + 1) (Nat.lt_succ_self _))
  obtain ⟨k1, k2, ns, nd, hk2, HMs, HMd⟩ : ∃ (k1 k2 : Int) (ns nd : List Int), ¬ k2 < 0 ∧ Hid (laws_markIntS.f (slots.length + 1) slots 1 = some (k1, ns)) ∧ Hid (laws_markIntS.f (draws.length + 1) draws k1 = some (k2, nd)) :=
    ⟨_, _, _, _, by omega, InS.mark_is slots hl1 1 (by omega) _ (Nat.lt_succ_self _), InS.mark_is draws hl2 (1 + slots.length) (by omega) _ (Nat.lt_succ_self _)⟩
  obtain ⟨kr, ms, hkr, HMr, HHr, hms⟩ : ∃ (q : Int) (ms : List Int), 0 ≤ q ∧ Hid (laws_markIntS.f (r.length + 1) r 1 = some (q, ms)) ∧ Hid (laws_heldIntS.f (r.length + 1) ms 1 = some q) ∧ ms.length = r.length :=
    ⟨_, _, by omega, InS.mark_is r hr1 1 (by omega) _ (Nat.lt_succ_self _), InS.held_is r.length hr1 1 (by omega) _ (Nat.lt_succ_self _), InS.marks_len _ _⟩
  have HLM := Lib.hid hms
  clear hans hs hd hws hwd wm wl hys hyd hms
  go_enter Try.func4, Try.ntmps4
  have HB0 := Lib.hid (Below.refl w.heap.size w)
  go_wp2_with fail
  refine (laws_toIntS.calls _ As cs slots slots _ (Kd.C_below HS.out HB0.out) hcs HTs.out).mono ?_
  rintro e w1 ⟨v, rfl, hR, hw⟩
  have hR' := own_of (w0 := w) hR HB0.out.size
  obtain ⟨Aa, ca, rfl, _, _⟩ := Kd.R_reads hR'
  have Ha1 := Lib.hid hR'
  have HB1 := Lib.hid (bstep HB0.out hw)
  have hz1 := (hw).size
  clear hR hR' hw
  clear HB0
  go_wp2_with fail
  refine (laws_toIntS.calls _ Ad cd draws draws _ (Kd.C_below HD.out HB1.out) hcd HTd.out).mono ?_
  rintro e w2 ⟨v, rfl, hR, hw⟩
  have hR' := own_of (w0 := w) hR HB1.out.size
  obtain ⟨Ab, cb, rfl, _, _⟩ := Kd.R_reads hR'
  have Hb2 := Lib.hid hR'
  have Ha2 := Lib.hid (Kd.R_below Ha1.out hw)
  have HB2 := Lib.hid (bstep HB1.out hw)
  have hz2 := (hw).size
  clear hR hR' hw
  clear Ha1 HB1
  go_wp2_with fail
  refine (spec_is w2 (Kd.R_reads' Ha2.out).2.2 (Kd.R_reads' Ha2.out).2.1 (Kd.R_reads' Hb2.out).2.2 (Kd.R_reads' Hb2.out).2.1 hl1 hl2 HAN.out).mono ?_
  rintro e w3 ⟨v, rfl, hR, hw⟩
  have hR' := own_of (w0 := w) hR HB2.out.size
  obtain ⟨Aw, cw, rfl, _, _⟩ := Kd.R_reads hR'
  have Hw3 := Lib.hid hR'
  have Ha3 := Lib.hid (Kd.R_below Ha2.out hw)
  have Hb3 := Lib.hid (Kd.R_below Hb2.out hw)
  have HB3 := Lib.hid (bstep HB2.out hw)
  have hz3 := (hw).size
  clear hR hR' hw
  clear Ha2 Hb2 HB2
  go_wp2_with fail
  refine (laws_toIntS.calls _ As cs slots slots _ (Kd.C_below HS.out HB3.out) hcs HTs.out).mono ?_
  rintro e w4 ⟨v, rfl, hR, hw⟩
  have hR' := own_of (w0 := w) hR HB3.out.size
  obtain ⟨Ax, cx, rfl, _, _⟩ := Kd.R_reads hR'
  have Hx4 := Lib.hid hR'
  have Hw4 := Lib.hid (Kd.R_below Hw3.out hw)
  have HB4 := Lib.hid (bstep HB3.out hw)
  have hz4 := (hw).size
  clear hR hR' hw
  clear Hw3 HB3
  go_wp2_with fail
  refine (laws_toIntS.calls _ Ad cd draws draws _ (Kd.C_below HD.out HB4.out) hcd HTd.out).mono ?_
  rintro e w5 ⟨v, rfl, hR, hw⟩
  have hR' := own_of (w0 := w) hR HB4.out.size
  obtain ⟨Ay, cy, rfl, _, _⟩ := Kd.R_reads hR'
  have Hy5 := Lib.hid hR'
  have Hw5 := Lib.hid (Kd.R_below Hw4.out hw)
  have Hx5 := Lib.hid (Kd.R_below Hx4.out hw)
  have HB5 := Lib.hid (bstep HB4.out hw)
  have hz5 := (hw).size
  clear hR hR' hw
  clear Hw4 Hx4 HB4
  go_wp2_with fail
  refine (impl_is w5 (Kd.R_reads' Hx5.out).2.2 (Kd.R_reads' Hx5.out).2.1 (Kd.R_reads' Hy5.out).2.2 (Kd.R_reads' Hy5.out).2.1 hl1 hl2 HAN.out).mono ?_
  rintro e w6 ⟨v, rfl, hR, hw⟩
  have hR' := own_of (w0 := w) hR HB5.out.size
  obtain ⟨Ag, cg, rfl, _, _⟩ := Kd.R_reads hR'
  have Hg6 := Lib.hid hR'
  have Hw6 := Lib.hid (Kd.R_below Hw5.out hw)
  have Hx6 := Lib.hid (Kd.R_below Hx5.out hw)
  have Hy6 := Lib.hid (Kd.R_below Hy5.out hw)
  have HB6 := Lib.hid (bstep HB5.out hw)
  have hz6 := (hw).size
  clear hR hR' hw
  clear Hw5 Hx5 Hy5 HB5
  go_wp2_with fail
  refine (laws_eqIntS.calls _ Ag cg r Aw cw r true _ (Kd.R_reads' Hg6.out).2.2 (Kd.R_reads' Hg6.out).2.1 (Kd.R_reads' Hw6.out).2.2 (Kd.R_reads' Hw6.out).2.1 HEr.out).mono ?_
  rintro e w7 ⟨rfl, hw⟩
  have Hw7 := Lib.hid (Kd.R_below Hw6.out hw.below)
  have Hx7 := Lib.hid (Kd.R_below Hx6.out hw.below)
  have Hy7 := Lib.hid (Kd.R_below Hy6.out hw.below)
  have Hg7 := Lib.hid (Kd.R_below Hg6.out hw.below)
  have HB7 := Lib.hid (bstep HB6.out hw.below)
  have hz7 := (hw.below).size
  clear hw
  clear Hw6 Hx6 Hy6 Hg6 HB6
  have hbb : (b != b) = false := by simp
  go_wp2_with fail
  refine (laws_toIntS.calls _ As cs slots slots _ (Kd.C_below HS.out HB7.out) hcs HTs.out).mono ?_
  rintro e w8 ⟨v, rfl, hR, hw⟩
  have hR' := own_of (w0 := w) hR HB7.out.size
  obtain ⟨At, ct, rfl, _, _⟩ := Kd.R_reads hR'
  have Ht8 := Lib.hid hR'
  have Hw8 := Lib.hid (Kd.R_below Hw7.out hw)
  have Hx8 := Lib.hid (Kd.R_below Hx7.out hw)
  have Hy8 := Lib.hid (Kd.R_below Hy7.out hw)
  have Hg8 := Lib.hid (Kd.R_below Hg7.out hw)
  have HB8 := Lib.hid (bstep HB7.out hw)
  have hz8 := (hw).size
  clear hR hR' hw
  clear Hw7 Hx7 Hy7 Hg7 HB7
  go_wp2_with fail
  refine (laws_eqIntS.calls _ Ax cx slots At ct slots true _ (Kd.R_reads' Hx8.out).2.2 (Kd.R_reads' Hx8.out).2.1 (Kd.R_reads' Ht8.out).2.2 (Kd.R_reads' Ht8.out).2.1 HEs.out).mono ?_
  rintro e w9 ⟨rfl, hw⟩
  have Hw9 := Lib.hid (Kd.R_below Hw8.out hw.below)
  have Hx9 := Lib.hid (Kd.R_below Hx8.out hw.below)
  have Hy9 := Lib.hid (Kd.R_below Hy8.out hw.below)
  have Hg9 := Lib.hid (Kd.R_below Hg8.out hw.below)
  have Ht9 := Lib.hid (Kd.R_below Ht8.out hw.below)
  have HB9 := Lib.hid (bstep HB8.out hw.below)
  have hz9 := (hw.below).size
  clear hw
  clear Hw8 Hx8 Hy8 Hg8 Ht8 HB8
  go_wp2_with fail
  refine (laws_toIntS.calls _ Ad cd draws draws _ (Kd.C_below HD.out HB9.out) hcd HTd.out).mono ?_
  rintro e w10 ⟨v, rfl, hR, hw⟩
  have hR' := own_of (w0 := w) hR HB9.out.size
  obtain ⟨At, ct, rfl, _, _⟩ := Kd.R_reads hR'
  have Ht10 := Lib.hid hR'
  have Hw10 := Lib.hid (Kd.R_below Hw9.out hw)
  have Hx10 := Lib.hid (Kd.R_below Hx9.out hw)
  have Hy10 := Lib.hid (Kd.R_below Hy9.out hw)
  have Hg10 := Lib.hid (Kd.R_below Hg9.out hw)
  have HB10 := Lib.hid (bstep HB9.out hw)
  have hz10 := (hw).size
  clear hR hR' hw
  clear Hw9 Hx9 Hy9 Hg9 HB9
  go_wp2_with fail
  refine (laws_eqIntS.calls _ Ay cy draws At ct draws true _ (Kd.R_reads' Hy10.out).2.2 (Kd.R_reads' Hy10.out).2.1 (Kd.R_reads' Ht10.out).2.2 (Kd.R_reads' Ht10.out).2.1 HEd.out).mono ?_
  rintro e w11 ⟨rfl, hw⟩
  have Hw11 := Lib.hid (Kd.R_below Hw10.out hw.below)
  have Hx11 := Lib.hid (Kd.R_below Hx10.out hw.below)
  have Hy11 := Lib.hid (Kd.R_below Hy10.out hw.below)
  have Hg11 := Lib.hid (Kd.R_below Hg10.out hw.below)
  have Ht11 := Lib.hid (Kd.R_below Ht10.out hw.below)
  have HB11 := Lib.hid (bstep HB10.out hw.below)
  have hz11 := (hw.below).size
  clear hw
  clear Hw10 Hx10 Hy10 Hg10 Ht10 HB10
  go_wp2_with fail
  refine (laws_markIntS.calls _ _ _ slots _ _ _ w _ HB11.out Hx11.out HMs.out).mono ?_
  rintro e w12 ⟨rfl, hR, hB, hk⟩
  have Hw12 := Lib.hid (Kd.R_kept Hw11.out hk (fun k hk h2 => by omega))
  have Hy12 := Lib.hid (Kd.R_kept Hy11.out hk (fun k hk h2 => by omega))
  have Hg12 := Lib.hid (Kd.R_kept Hg11.out hk (fun k hk h2 => by omega))
  have HB12 := Lib.hid hB
  have hz12 := hk.1
  clear hR hB hk
  clear Hw11 Hx11 Hy11 Hg11 HB11
  go_wp2_with fail
  refine (laws_markIntS.calls _ _ _ draws _ _ _ w _ HB12.out Hy12.out HMd.out).mono ?_
  rintro e w13 ⟨rfl, hR, hB, hk⟩
  have Hw13 := Lib.hid (Kd.R_kept Hw12.out hk (fun k hk h2 => by omega))
  have Hg13 := Lib.hid (Kd.R_kept Hg12.out hk (fun k hk h2 => by omega))
  have HB13 := Lib.hid hB
  have hz13 := hk.1
  clear hR hB hk
  clear Hw12 Hy12 Hg12 HB12
  go_wp2_with fail
  refine (laws_eqIntS.calls _ Ag cg r Aw cw r true _ (Kd.R_reads' Hg13.out).2.2 (Kd.R_reads' Hg13.out).2.1 (Kd.R_reads' Hw13.out).2.2 (Kd.R_reads' Hw13.out).2.1 HEr.out).mono ?_
  rintro e w14 ⟨rfl, hw⟩
  have Hw14 := Lib.hid (Kd.R_below Hw13.out hw.below)
  have Hg14 := Lib.hid (Kd.R_below Hg13.out hw.below)
  have HB14 := Lib.hid (bstep HB13.out hw.below)
  have hz14 := (hw.below).size
  clear hw
  clear Hw13 Hg13 HB13
  go_wp2_with fail
  refine (laws_markIntS.calls _ _ _ r _ _ _ w _ HB14.out Hg14.out HMr.out).mono ?_
  rintro e w15 ⟨rfl, hR, hB, hk⟩
  have Hw15 := Lib.hid (Kd.R_kept Hw14.out hk (fun k hk h2 => by omega))
  have HB15 := Lib.hid hB
  have hz15 := hk.1
  have HK15 := Lib.hid (Kd.R_reads' hR)
  clear hR hB hk
  clear Hw14 Hg14 HB14
  have heldc : ∀ W, (Kd.int .i64).C W Ag ms.length ms → Calls Try.prog 20 #[.slice Ag r.length cg, .int .i64 1] W fun e w' => e = .returned (.int .i64 kr) ∧ Drawn0 W w' := fun W hW => by
    have := laws_heldIntS.calls _ Ag cg ms 1 _ W hW (by rw [HLM.out]; exact HK15.out.2.1) HHr.out
    rw [HLM.out] at this
    exact this
  have HC := Lib.hid heldc
  clear heldc
  have hkr0 : ¬ kr < 0 := by omega
  have hkrq : (kr != kr) = false := by simp
  go_wp2_with fail
  refine (HC.out w15 HK15.out.2.2).mono ?_
  rintro e w16 ⟨rfl, hw⟩
  have HK16 := Lib.hid (show r.length = ms.length ∧ r.length ≤ cg ∧ (Kd.int .i64).C w16 Ag ms.length ms from ⟨HK15.out.1, HK15.out.2.1, Kd.C_below HK15.out.2.2 hw.below⟩)
  have Hw16 := Lib.hid (Kd.R_below Hw15.out hw.below)
  have HB16 := Lib.hid (bstep HB15.out hw.below)
  have hz16 := (hw.below).size
  clear hw
  clear Hw15 HB15
  go_wp2_with fail
  refine (laws_toIntS.calls _ As cs slots slots _ (Kd.C_below HS.out HB16.out) hcs HTs.out).mono ?_
  rintro e w17 ⟨v, rfl, hR, hw⟩
  have hR' := own_of (w0 := w) hR HB16.out.size
  obtain ⟨Ap, cp, rfl, _, _⟩ := Kd.R_reads hR'
  have Hp17 := Lib.hid hR'
  have Hw17 := Lib.hid (Kd.R_below Hw16.out hw)
  have HB17 := Lib.hid (bstep HB16.out hw)
  have hz17 := (hw).size
  have HK17 := Lib.hid (show r.length = ms.length ∧ r.length ≤ cg ∧ (Kd.int .i64).C w17 Ag ms.length ms from ⟨HK16.out.1, HK16.out.2.1, Kd.C_below HK16.out.2.2 hw⟩)
  clear hR hR' hw
  clear Hw16 HB16
  go_wp2_with fail
  refine (laws_toIntS.calls _ Ad cd draws draws _ (Kd.C_below HD.out HB17.out) hcd HTd.out).mono ?_
  rintro e w18 ⟨v, rfl, hR, hw⟩
  have hR' := own_of (w0 := w) hR HB17.out.size
  obtain ⟨Aq, cq, rfl, _, _⟩ := Kd.R_reads hR'
  have Hq18 := Lib.hid hR'
  have Hw18 := Lib.hid (Kd.R_below Hw17.out hw)
  have Hp18 := Lib.hid (Kd.R_below Hp17.out hw)
  have HB18 := Lib.hid (bstep HB17.out hw)
  have hz18 := (hw).size
  have HK18 := Lib.hid (show r.length = ms.length ∧ r.length ≤ cg ∧ (Kd.int .i64).C w18 Ag ms.length ms from ⟨HK17.out.1, HK17.out.2.1, Kd.C_below HK17.out.2.2 hw⟩)
  clear hR hR' hw
  clear Hw17 Hp17 HB17
  go_wp2_with fail
  refine (impl_is w18 (Kd.R_reads' Hp18.out).2.2 (Kd.R_reads' Hp18.out).2.1 (Kd.R_reads' Hq18.out).2.2 (Kd.R_reads' Hq18.out).2.1 hl1 hl2 HAN.out).mono ?_
  rintro e w19 ⟨v, rfl, hR, hw⟩
  have hR' := own_of (w0 := w) hR HB18.out.size
  obtain ⟨Ah, ch, rfl, _, _⟩ := Kd.R_reads hR'
  have Hh19 := Lib.hid hR'
  have Hw19 := Lib.hid (Kd.R_below Hw18.out hw)
  have Hp19 := Lib.hid (Kd.R_below Hp18.out hw)
  have Hq19 := Lib.hid (Kd.R_below Hq18.out hw)
  have HB19 := Lib.hid (bstep HB18.out hw)
  have hz19 := (hw).size
  have HK19 := Lib.hid (show r.length = ms.length ∧ r.length ≤ cg ∧ (Kd.int .i64).C w19 Ag ms.length ms from ⟨HK18.out.1, HK18.out.2.1, Kd.C_below HK18.out.2.2 hw⟩)
  clear hR hR' hw
  clear Hw18 Hp18 Hq18 HB18
  go_wp2_with fail
  refine (laws_eqIntS.calls _ Ah ch r Aw cw r true _ (Kd.R_reads' Hh19.out).2.2 (Kd.R_reads' Hh19.out).2.1 (Kd.R_reads' Hw19.out).2.2 (Kd.R_reads' Hw19.out).2.1 HEr.out).mono ?_
  rintro e w20 ⟨rfl, hw⟩
  have Hw20 := Lib.hid (Kd.R_below Hw19.out hw.below)
  have Hh20 := Lib.hid (Kd.R_below Hh19.out hw.below)
  have HB20 := Lib.hid (bstep HB19.out hw.below)
  have hz20 := (hw.below).size
  have HK20 := Lib.hid (show r.length = ms.length ∧ r.length ≤ cg ∧ (Kd.int .i64).C w20 Ag ms.length ms from ⟨HK19.out.1, HK19.out.2.1, Kd.C_below HK19.out.2.2 hw.below⟩)
  clear hw
  clear Hw19 Hh19 HB19
  go_wp2_with fail
  refine (HC.out w20 HK20.out.2.2).mono ?_
  rintro e w21 ⟨rfl, hw⟩
  have HK21 := Lib.hid (show r.length = ms.length ∧ r.length ≤ cg ∧ (Kd.int .i64).C w21 Ag ms.length ms from ⟨HK20.out.1, HK20.out.2.1, Kd.C_below HK20.out.2.2 hw.below⟩)
  have Hw21 := Lib.hid (Kd.R_below Hw20.out hw.below)
  have Hh21 := Lib.hid (Kd.R_below Hh20.out hw.below)
  have HB21 := Lib.hid (bstep HB20.out hw.below)
  have hz21 := (hw.below).size
  clear hw
  clear Hw20 Hh20 HB20
  go_wp2
  go_ret
  exact ⟨rfl, HB21.out⟩
end Go.Proofs.Ytklobepkihdbkaa.RwL
