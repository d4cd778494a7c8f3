/- The reference's address space: store, the open pages. -/
import Derived.Test.YtklobepkihdbkaaSsD
import Derived.Deep.DeepFit
namespace Go.Proofs.Ytklobepkihdbkaa.SsE
open Go.RowKit Go.Proofs.YtklobepkihdbkaaW.PrintWords Mem Sp SpI SpP SpQ SsR SsM SsD
set_option linter.unusedVariables false
set_option linter.unusedSimpArgs false
def SsPost (w : World) (F : Nat → Prop) (sb : Nat) (bud code : Int) (A : Pages) (e : Ending) (w' : World) : Prop :=
  e = .returned (.agg #[.int .i64 code, .slice none 0 0]) ∧ SSpace w' F sb bud A ∧ Turn w w' F
theorem store_fin {w wb W : World} {F : Nat → Prop} {sb : Nat} {bud code : Int} {A : Pages} (hT : Turn w wb (fun _ => False)) (hF : ∀ k, F k → k < w.heap.size) (hS : SSpace W F sb bud A) (hW : Turn wb W F) (c0 v0 : Value) :
    SsPost w F sb bud code A (.returned (.agg #[.int .i64 code, .slice none 0 0])) ((W.setCell ⟨w.heap.size, 0, none⟩ c0).setCell ⟨w.heap.size, 1, none⟩ v0) := by
  have hn : ∀ k, F k → k ≠ w.heap.size := fun k hk e => by have := hF k hk; omega
  refine ⟨rfl, hS.turned (G := fun k => k = w.heap.size) ((((Turn.refl W (fun k => k = w.heap.size)).setCell (p := ⟨w.heap.size, 0, none⟩) (.inl rfl) _).setCell (p := ⟨w.heap.size, 1, none⟩) (.inl rfl) _)) hn, ?_⟩
  exact (((hT.mono (G := F) (fun k e => e.elim)).trans hW (fun k e => .inl e)).setCell (p := ⟨w.heap.size, 0, none⟩) (.inr (Nat.le_refl _)) _).setCell (p := ⟨w.heap.size, 1, none⟩) (.inr (Nat.le_refl _)) _
set_option maxRecDepth 100000 in
set_option maxHeartbeats 4000000 in
theorem store_is {F : Nat → Prop} {sb : Nat} {bud : Int} {A : Pages} (w : World) (a : Int) (Ad : Option Addr) (cd : Nat) (data : List Int) (h : SSpace w F sb bud A) (ha : 0 ≤ a) (hA : a ≤ 18446744073709551615)
    (hd : (Kd.int .u8).C w Ad data.length data) (hdF : ∀ ad, Ad = some ad → 0 < data.length → ¬ F ad.block) :
    Calls Try.prog 63 #[.pointer (some ⟨sb, 0, none⟩), .int .u64 a, .slice Ad data.length cd] w (SsPost w F sb bud (accessC A a data.length) (storeA A a data)) := by
  have HW := Lib.hid h
  have HA := Lib.hid hA
  have hlm := hd.2.1
  obtain ⟨wb, hwb⟩ : ∃ x, w.alloc (.cells #[.int .i64 0, .slice none 0 0] 54) = x := ⟨_, rfl⟩
  have HWB := Lib.hid hwb
  have hTb : Turn w (w.alloc (.cells #[.int .i64 0, .slice none 0 0] 54)) (fun _ => False) := (Turn.refl w _).alloc _
  rw [hwb] at hTb
  have HTB := Lib.hid hTb
  have HIB := Lib.hid (HW.out.turned hTb (fun _ _ e => e))
  have hd1 := C_move hd (fun ad he hn0 => hTb.block ad.block (C_lt hd ad he hn0) (fun e => e))
  have HDT := Lib.hid hd1
  have HDF := Lib.hid hdF
  have HFB := Lib.hid h.bound
  have hzb : wb.heap.size = w.heap.size + 1 := by rw [← hwb]; simp
  have HB0 := Lib.hid (show wb.heap[w.heap.size]? = some (.cells #[.int .i64 0, .slice none 0 0] 54 (0, 0)) by rw [← hwb]; exact alloc_new w _)
  have HZB := Lib.hid hzb
  clear hwb hTb hzb h hA hd hdF hd1
  obtain ⟨code, hcode⟩ : ∃ c, accessC A a data.length = c := ⟨_, rfl⟩
  have HC := Lib.hid hcode
  -- the box of the answer
  obtain ⟨w2, hw2⟩ : ∃ x, wb.alloc (.cells #[.int .i64 code, .slice none 0 0] 54) = x := ⟨_, rfl⟩
  have hT2 : Turn wb (wb.alloc (.cells #[.int .i64 code, .slice none 0 0] 54)) F := (Turn.refl wb _).alloc _
  have hI2 := HIB.out.turned (G := fun _ => False) ((Turn.refl wb _).alloc (.cells #[.int .i64 code, .slice none 0 0] 54)) (fun _ _ e => e)
  have hB2 := alloc_new wb (.cells #[.int .i64 code, .slice none 0 0] 54)
  rw [hw2] at hT2 hI2 hB2
  have HW2 := Lib.hid hw2
  have HT2 := Lib.hid hT2
  have HI2 := Lib.hid hI2
  have HBX := Lib.hid hB2
  have HNB : Hid (¬ F wb.heap.size ∧ ¬ F w.heap.size) := Lib.hid ⟨fun e => by have := HFB.out _ e; have := HZB.out; omega, fun e => by have := HFB.out _ e; omega⟩
  rw [hcode]
  clear hT2 hI2 hB2 hw2
  by_cases c1 : code = 0
  · subst c1
    obtain ⟨an, rfl⟩ := Int.eq_ofNat_of_zero_le ha
    obtain ⟨hn, hadd, hre⟩ := accessC_ok HC.out
    have hst : storeA A an data = putAll A an data := by unfold storeA; rw [if_pos HC.out, Int.toNat_natCast]
    rw [hst]
    have HRE := Lib.hid hre
    have HAD := Lib.hid hadd
    clear hre hadd hst hlm hcode
    have HI0 : Hid (SSpace w2 F sb bud (putAll A an (data.take 0))) := HI2
    go_enter Try.func63, Try.ntmps63
    go_wp2_with (go_at_call 80; rw [HWB.out]; refine (access_is wb an data.length HIB.out ha HA.out).mono ?_; rintro e w1 ⟨rfl, rfl⟩; rw [HC.out])
    rw [HW2.out]
    go_loopw [8] (fun i W => ∃ j : Nat, i = .int .i64 j ∧ j ≤ data.length ∧ Hid (SSpace W F sb bud (putAll A an (data.take j))) ∧ Hid (Turn wb W F)  ∧ Hid (W.heap[wb.heap.size]? = some (.cells #[.int .i64 0, .slice none 0 0] 54 (0, 0)))) (fun i _ => data.length - (intOf i).toNat)
    case atStart => exact ⟨0, rfl, Nat.zero_le _, HI0, HT2, HBX⟩
    case round =>
      clear HI0 HT2 HBX HI2
      obtain ⟨j, rfl, hj, HI, HT, HBX⟩ := hrel
      have k0 := bcell HBX.out 0
      have k1 := bcell HBX.out 1
      simp only [List.getElem?_toArray, List.getElem?_cons_succ, List.getElem?_cons_zero] at k0 k1
      by_cases hlt : j < data.length
      · have hdw := C_move HDT.out (fun ad he hn0 => HT.out.block ad.block (C_lt HDT.out ad he hn0) (HDF.out ad he hn0))
        obtain ⟨ad, had, hcx⟩ := Kd.at_int hdw (j : Int) (by omega) (by omega)
        rw [Int.toNat_natCast, show rd data (j : Int) = data.getD j 0 by unfold rd; rw [Int.toNat_natCast]] at hcx
        subst had
        have hrq := HRE.out j hlt
        have hpre : ∀ i, i < (data.take j).length → (an + i) / 1024 < A.length := fun i hi => reach_lt (HRE.out i (by rw [List.length_take] at hi; omega))
        rw [← reach_putAll (data.take j) A an (an + j) hpre] at hrq
        have had2 : ((an + j : Nat) : Int) ≤ 4611686018427387904 := by have := HAD.out (by omega); omega
        have hnx := putAll_take (A := A) (a := an) hlt
        obtain ⟨v, hv⟩ : ∃ v, data.getD j 0 = v := ⟨_, rfl⟩
        obtain ⟨q, hq⟩ : ∃ q, an + j = q := ⟨_, rfl⟩
        have hqi : (an : Int) + (j : Int) = (q : Int) := by omega
        rw [hv] at hcx hnx
        rw [hq] at hrq had2 hnx
        obtain ⟨bs, hx⟩ := reach_some hrq
        have HX := Lib.hid hx
        have HNX := Lib.hid hnx
        clear hx hrq hq hnx hv hdw hpre
        go_wp2_with (go_at_call 82; (try rw [hqi]); refine (put_is wr q v HI.out had2 HX.out).mono ?_; rintro e w5 ⟨rfl, hI5, hT5⟩; rw [← HNX.out] at hI5; have HI5 := Lib.hid hI5; have HB5 := Lib.hid (hT5.blk HNB.out.1 HBX.out); have HT5 := Lib.hid (HT.out.trans hT5 (fun k e => .inl e)); clear hI5 hT5)
        go_roundw
        case rel => exact ⟨j + 1, by go_num, by omega, HI5, HT5, HB5⟩
        case measure => simp [intOf]; omega
      · obtain rfl : j = data.length := by omega
        have hr0 := HT.out.blk HNB.out.2 HB0.out
        have q0 := bcell hr0 0
        have q1 := bcell hr0 1
        have z0 := bfroz hr0 0
        have z1 := bfroz hr0 1
        simp only [List.getElem?_toArray, List.getElem?_cons_succ, List.getElem?_cons_zero] at q0 q1
        rw [List.take_length] at HI
        clear hr0
        go_wp2
        refine bodyPost_ret (v := .agg #[.int .i64 0, .slice none 0 0]) ?_ rfl (store_fin HTB.out HFB.out HI.out HT.out _ _)
        simp [results, Try.results63, go_sem, q0, q1]
  · have hst : storeA A a data = A := by unfold storeA; rw [if_neg (by rw [hcode]; exact c1)]
    rw [hst]
    have hb : (code == 0) = false := by simpa using c1
    have k0 := bcell HBX.out 0
    have k1 := bcell HBX.out 1
    simp only [List.getElem?_toArray, List.getElem?_cons_succ, List.getElem?_cons_zero] at k0 k1
    have hr0 := HT2.out.blk HNB.out.2 HB0.out
    have q0 := bcell hr0 0
    have q1 := bcell hr0 1
    have z0 := bfroz hr0 0
    have z1 := bfroz hr0 1
    simp only [List.getElem?_toArray, List.getElem?_cons_succ, List.getElem?_cons_zero] at q0 q1
    clear hr0 hst hcode c1
    go_enter Try.func63, Try.ntmps63
    go_wp2_with (go_at_call 80; rw [HWB.out]; refine (access_is wb a data.length HIB.out ha HA.out).mono ?_; rintro e w1 ⟨rfl, rfl⟩; rw [HC.out])
    rw [HW2.out]
    go_loopw [8] (fun i W => i = .int .i64 0 ∧ W = w2) (fun i _ => 0)
    case atStart => exact ⟨rfl, rfl⟩
    case round =>
      obtain ⟨rfl, rfl⟩ := hrel
      by_cases hn : 0 < data.length
      · go_wp2
        refine bodyPost_ret (v := .agg #[.int .i64 code, .slice none 0 0]) ?_ rfl (store_fin HTB.out HFB.out HI2.out HT2.out _ _)
        simp [results, Try.results63, go_sem, q0, q1]
      · go_wp2
        refine bodyPost_ret (v := .agg #[.int .i64 code, .slice none 0 0]) ?_ rfl (store_fin HTB.out HFB.out HI2.out HT2.out _ _)
        simp [results, Try.results63, go_sem, q0, q1]
/-! ### the open pages -/
def openK (A : Pages) (j : Nat) : List Int := ((List.range j).filter fun i => opened (pg A i)).map fun i : Nat => (i : Int)
theorem openK_succ (A : Pages) (j : Nat) : openK A (j + 1) = openK A j ++ (if opened (pg A j) = true then [(j : Int)] else []) := by
  unfold openK
  rw [List.range_succ, List.filter_append, List.map_append]
  by_cases h : opened (pg A j) = true <;> simp [h]
theorem openK_le (A : Pages) (j : Nat) : (openK A j).length ≤ j := by
  unfold openK
  rw [List.length_map]
  exact Nat.le_trans (List.length_filter_le _ _) (by simp)
theorem openK_full (A : Pages) : openK A A.length = openL A := rfl
theorem info3 : (Try.prog.info? 3).map (fun i => (i.zero, i.size, i.bytes)) = some (some (.int .i64 0), 1, 8) := by kernel_rfl
def OpPost (w : World) (xs : List Int) (e : Ending) (w' : World) : Prop :=
  ∃ v, e = .returned v ∧ (Kd.int .i64).R 3 w' w.heap.size (fun _ => True) v xs ∧ Turn w w' (fun _ => False)
set_option maxRecDepth 100000 in
set_option maxHeartbeats 4000000 in
theorem opened_is {F : Nat → Prop} {sb : Nat} {bud : Int} {A : Pages} (w : World) (h : SSpace w F sb bud A) :
    Calls Try.prog 48 #[.pointer (some ⟨sb, 0, none⟩)] w (OpPost w (openL A)) := by
  obtain ⟨rb, Ar, cr, db, h⟩ := h
  obtain ⟨k0, k1⟩ := h.scells
  have hlen := h.len
  have HI := Lib.hid h
  clear h
  go_enter Try.func48, Try.ntmps48
  go_wp2_with fail
  go_loopw [3, 11] (fun v i W => ∃ j : Nat, i = .int .i64 j ∧ j ≤ A.length ∧ Hid ((Kd.int .i64).R 3 W w.heap.size (fun _ => True) v (openK A j)) ∧ Hid (Turn w W (fun _ => False))) (fun _ i _ => A.length - (intOf i).toNat)
  case atStart => exact ⟨0, rfl, Nat.zero_le _, Lib.hid (Kd.R_nil _ _ _ _ _), Lib.hid (Turn.refl w _)⟩
  case round =>
    obtain ⟨j, rfl, hj, HR, HT⟩ := hrel
    by_cases hlt : j < A.length
    · obtain ⟨h1, c0, c1, c2, hf⟩ := (HI.out.turned HT.out (fun _ _ e => e)).cells hlt
      subst h1
      have hns := openK_succ A j
      have hol := openK_le A j
      clear hf k0 k1
      cases hp : pg A j with
      | none =>
        rw [hp] at c0 c1 c2 hns
        unfold onV at c0
        unfold opV opened at c1
        unfold dtV at c2
        simp only [Option.isSome_none] at c0 c1 c2
        simp [opened] at hns
        have HNS := Lib.hid hns
        clear hns hp
        go_wp2_with fail
        go_roundw
        case rel => exact ⟨j + 1, by go_num, by omega, Lib.hid (by rw [HNS.out]; exact Kd.R_alloc HR.out _), Lib.hid (HT.out.alloc _)⟩
        case measure => simp [intOf]; omega
      | some x =>
        obtain ⟨bs, op⟩ := x
        rw [hp] at c0 c1 c2 hns
        unfold onV at c0
        unfold opV opened at c1
        unfold dtV at c2
        simp only [Option.isSome_some] at c0 c1 c2
        cases op with
        | false =>
          simp [opened] at hns
          have HNS := Lib.hid hns
          clear hns hp
          go_wp2_with fail
          go_roundw
          case rel => exact ⟨j + 1, by go_num, by omega, Lib.hid (by rw [HNS.out]; exact Kd.R_alloc HR.out _), Lib.hid (HT.out.alloc _)⟩
          case measure => simp [intOf]; omega
        | true =>
          simp [opened] at hns
          have HNS := Lib.hid hns
          have hzs := HT.out.size
          clear hns hp
          go_wp2_with ((with_reducible refine gate_dst (N := 25) rfl ?_); at_builtin; refine Kd.R_append (Kd.int .i64) (w0 := w) w.heap.size rfl (.tmp 22) (.tmp 24) 22 3 (.int .i64 0) 8 rfl Try.underlying22 info3 rfl (by decide) (by omega) u3 (openK A j) (j : Int) [.int .i64 (j : Int)] (fun _ => True) (fun _ => False) rfl ?aX ?aP (fun _ hk => hk.elim) ?aF ?aO ?aB ?aS ?aL ?_; (case aX => simp [Act.eval]); (case aP => exact rfl); (case aF => intro k hk; trivial); (case aO => exact Kd.R_alloc HR.out _); (case aB => exact (HT.out.alloc _).below (Nat.le_refl _) (fun k e => e.elim)); (case aS => simp; omega); (case aL => omega); intro v1 w5 hR5 hB5 hg5 hat5; rw [← HNS.out] at hR5; have HR5 := Lib.hid hR5; have HT5 := Lib.hid ((HT.out.alloc _).grown hg5 (fun b e => .inr ((Kd.R_bound HR.out).1 b e).2.1)); clear hR5 hB5 hg5 hat5)
          go_roundw
          case rel => exact ⟨j + 1, by go_num, by omega, HR5, HT5⟩
          case measure => simp [intOf]; omega
    · obtain rfl : j = A.length := by omega
      have hR := HR.out
      rw [openK_full] at hR
      have HRF := Lib.hid hR
      clear hR
      go_wp2
      go_ret
      exact ⟨_, rfl, HRF.out, HT.out⟩
end Go.Proofs.Ytklobepkihdbkaa.SsE
