/- The program's address space: store. -/
import Derived.Test.YtklobepkihdbkaaSpL
namespace Go.Proofs.Ytklobepkihdbkaa.SpT
open Go.RowKit Go.MuLone Go.Proofs.YtklobepkihdbkaaW.PrintWords Mem Sp SpI SpA SpP SpQ SpL
set_option linter.unusedVariables false
set_option linter.unusedSimpArgs false
theorem putB_some {A : Pages} {q : Nat} {bs : List Int} {op : Bool} (h : pg A (q / 1024) = some (bs, op)) (v : Int) : putB A q v = A.set (q / 1024) (some (bs.set (q % 1024) v, op)) := by
  unfold putB
  rw [h]
  rfl
set_option maxRecDepth 100000 in
set_option maxHeartbeats 2000000 in
theorem store_is {F : Nat → Prop} {sb : Nat} {bud : Int} {A : Pages} (w : World) (a : Int) (Ad : Option Addr) (cd : Nat) (data : List Int) (h : ISpace w F sb 0 bud A) (ha : 0 ≤ a) (hA : a ≤ 18446744073709551615)
    (hd : (Kd.int .u8).C w Ad data.length data) (hdF : ∀ ad, Ad = some ad → 0 < data.length → ¬ F ad.block) :
    Calls Try.prog 60 #[.pointer (some ⟨sb, 0, none⟩), .int .u64 a, .slice Ad data.length cd] w (SpPost w F sb bud (accessC A a data.length) (storeA A a data)) := by
  have hF : F sb := by obtain ⟨mb, pb, h⟩ := h; exact h.fs
  have hb0 := h.bound
  obtain ⟨w1, hw1⟩ : ∃ x, w.setCell ⟨sb, 0, none⟩ (.int .i32 1) = x := ⟨_, rfl⟩
  have hI1 := h.mutex 1
  have hT1 : Turn w (w.setCell ⟨sb, 0, none⟩ (.int .i32 1)) F := (Turn.refl w F).setCell (.inl hF) _
  rw [hw1] at hI1 hT1
  obtain ⟨mb, pb, hI⟩ := hI1
  have h0 : w.cell? ⟨sb, 0, none⟩ = some (.int .i32 0) := by obtain ⟨mb, pb, h⟩ := h; exact bcell h.hs 0
  have f0 : w.frozen? ⟨sb, 0, none⟩ = false := by obtain ⟨mb, pb, h⟩ := h; exact bfroz h.hs 0
  have k0 : w1.cell? ⟨sb, 0, none⟩ = some (.int .i32 1) := bcell hI.hs 0
  have g0 : w1.frozen? ⟨sb, 0, none⟩ = false := bfroz hI.hs 0
  have HI := Lib.hid hI
  have HT := Lib.hid hT1
  have HW := Lib.hid hw1
  have HF := Lib.hid hF
  have HA := Lib.hid hA
  have HB0 := Lib.hid hb0
  have HBD : Hid (∀ k, F k → F k ∨ w.heap.size ≤ k) := Lib.hid (fun k hk => .inl hk)
  have HDT := Lib.hid hd
  have HDF := Lib.hid hdF
  clear h hI hT1 hF hw1 hA hb0 hd hdF
  have hlm := HDT.out.2.1
  by_cases c1 : accessC A a data.length = 0
  · obtain ⟨an, rfl⟩ := Int.eq_ofNat_of_zero_le ha
    obtain ⟨hn, hadd, hre⟩ := accessC_ok c1
    have hst : storeA A an data = putAll A an data := by unfold storeA; rw [if_pos c1, Int.toNat_natCast]
    rw [c1, hst]
    have HC := Lib.hid c1
    have HRE := Lib.hid hre
    have HAD := Lib.hid hadd
    clear c1 hre hadd hst hlm
    have HI0 : Hid (ISp w1 F sb mb pb 1 bud (putAll A an (data.take 0))) := HI
    go_enter_defers Try.func60, Try.ntmps60
    go_wp2_with (first
      | (go_at_call 71; refine (lock_free Try.muLib ⟨sb, 0, none⟩ _ h0 f0).mono ?_; rintro e w' ⟨rfl, rfl⟩; rw [HW.out])
      | (go_at_call 78; refine (open_is w1 an data.length HI.out ha HA.out).mono ?_; rintro e w' ⟨rfl, rfl⟩; rw [HC.out]))
    clear HI k0 g0
    go_loopw [28] (fun i W => ∃ j : Nat, i = .int .i64 j ∧ j ≤ data.length ∧ Hid (ISp W F sb mb pb 1 bud (putAll A an (data.take j))) ∧ Hid (Turn w W F)) (fun i _ => data.length - (intOf i).toNat)
    case atStart => exact ⟨0, rfl, Nat.zero_le _, HI0, HT⟩
    case round =>
      clear HI0 HT
      obtain ⟨j, rfl, hj, HI, HT⟩ := hrel
      by_cases hlt : j < data.length
      · have hdw := C_move HDT.out (fun ad he hn0 => HT.out.block ad.block (C_lt HDT.out ad he hn0) (HDF.out ad he hn0))
        obtain ⟨ad, had, hcx⟩ := Kd.at_int hdw (j : Int) (by omega) (by omega)
        rw [Int.toNat_natCast, show rd data (j : Int) = data.getD j 0 by unfold rd; rw [Int.toNat_natCast]] at hcx
        subst had
        have hrq := HRE.out j hlt
        have hpre : ∀ i, i < (data.take j).length → (an + i) / 1024 < A.length := fun i hi => reach_lt (HRE.out i (by rw [List.length_take] at hi; omega))
        rw [← reach_putAll (data.take j) A an (an + j) hpre] at hrq
        have had2 : an + j ≤ 4611686018427387904 := by have := HAD.out (by omega); omega
        have hnx := putAll_take (A := A) (a := an) hlt
        obtain ⟨v, hv⟩ : ∃ v, data.getD j 0 = v := ⟨_, rfl⟩
        obtain ⟨q, hq⟩ : ∃ q, an + j = q := ⟨_, rfl⟩
        have hqi : (an : Int) + (j : Int) = (q : Int) := by omega
        obtain ⟨B, hB⟩ : ∃ B, putAll A an (data.take j) = B := ⟨_, rfl⟩
        rw [hv] at hcx hnx
        rw [hB] at HI hrq hnx
        rw [hq] at hrq had2 hnx
        unfold reach at hrq
        obtain ⟨bs, hx⟩ : ∃ bs, pg B (q / 1024) = some (bs, true) := by
          cases hh : pg B (q / 1024) with
          | none => rw [hh] at hrq; cases hrq
          | some y => obtain ⟨y1, y2⟩ := y; rw [hh] at hrq; exact ⟨y1, by rw [show y2 = true from hrq]⟩
        obtain ⟨hl, hFp, hbk⟩ := HI.out.hp _ _ _ hx
        have hpc := bcell hbk (q % 1024)
        rw [page_at hl (by omega)] at hpc
        have hfz := bfroz hbk (q % 1024)
        have hbs := bset hbk (q % 1024) (.int .u8 v)
        rw [page_set hl (by omega)] at hbs
        have hI5 := SpP.ISp.page1 (op' := true) (w2 := wr.setCell ⟨pb (q / 1024), q % 1024, none⟩ (.int .u8 v)) HI.out hx (by rw [List.length_set]; exact hl) hbs (set_size _ _ _) (fun q hq => Below.heap_setCell _ _ _ _ hq)
        rw [← putB_some hx, ← hnx] at hI5
        have HI5 := Lib.hid hI5
        have HT5 := Lib.hid (HT.out.setCell (p := ⟨pb (q / 1024), q % 1024, none⟩) (.inl hFp) (.int .u8 v))
        have hpv : pval B pb (q / 1024) = .pointer (some ⟨pb (q / 1024), 0, none⟩) := pval_some (by rw [hx]; rfl)
        have k2 := bcell HI.out.hs 2
        simp only [List.getElem?_toArray, List.getElem?_cons_succ, List.getElem?_cons_zero] at k2
        have HPV := Lib.hid hpv
        have hwk : (Lit.int .i64 ((q / 1024 : Nat) : Int)).wf = true := WalkArith.wf_i64 (by omega)
        have hky : (q : Int) / 1024 = ((q / 1024 : Nat) : Int) := by omega
        have HKY := Lib.hid hky
        clear hbk hpv hl hx hrq hq hB hnx hv hbs hI5 hdw hpre hky hFp
        go_upto_region 10 with fail
        clear hqi
        go_wp2_with (at_lookup; refine wp_look Try.underlying3 Try.underlying93 rfl _ _ rfl (by kernel_rfl) rfl HI.out.hm _ rfl (by first | exact hwk | (rw [HKY.out]; exact hwk)) ?_; (try rw [HKY.out]); rw [pval_is, HPV.out])
        go_roundw
        case rel => exact ⟨j + 1, by go_num, by omega, HI5, HT5⟩
        case measure => simp [intOf]; omega
      · obtain rfl : j = data.length := by omega
        have k0 := bcell HI.out.hs 0
        have g0 := bfroz HI.out.hs 0
        rw [List.take_length] at HI
        go_wp2
        refine leaves_cons (f := 72) (args := #[.pointer (some ⟨sb, 0, none⟩)]) (by simp) (by simp [go_sem]) ?_
        refine (unlock_deferred Try.muLib ⟨sb, 0, none⟩ .returning _ k0 g0).mono ?_
        rintro e u' w'' ⟨rfl, rfl, rfl⟩
        exact ⟨_, results_tmp rfl _ _ _, sp_fin ⟨mb, pb, HI.out⟩ HBD.out HT.out HF.out⟩
  · have hst : storeA A a data = A := by unfold storeA; rw [if_neg c1]
    rw [hst]
    have c2 : (accessC A a data.length != 0) = true := by simpa using c1
    obtain ⟨code, hcode⟩ : ∃ c, accessC A a data.length = c := ⟨_, rfl⟩
    rw [hcode] at c2 ⊢
    have HC := Lib.hid hcode
    clear c1 hcode hst
    go_enter_defers Try.func60, Try.ntmps60
    go_wp2_with (first
      | (go_at_call 71; refine (lock_free Try.muLib ⟨sb, 0, none⟩ _ h0 f0).mono ?_; rintro e w' ⟨rfl, rfl⟩; rw [HW.out])
      | (go_at_call 78; refine (open_is w1 a data.length HI.out ha HA.out).mono ?_; rintro e w' ⟨rfl, rfl⟩; rw [HC.out]))
    refine leaves_cons (f := 72) (args := #[.pointer (some ⟨sb, 0, none⟩)]) (by simp) (by simp [go_sem]) ?_
    refine (unlock_deferred Try.muLib ⟨sb, 0, none⟩ .returning _ k0 g0).mono ?_
    rintro e u' w'' ⟨rfl, rfl, rfl⟩
    exact ⟨_, results_tmp rfl _ _ _, sp_fin ⟨mb, pb, HI.out⟩ HBD.out HT.out HF.out⟩
end Go.Proofs.Ytklobepkihdbkaa.SpT
