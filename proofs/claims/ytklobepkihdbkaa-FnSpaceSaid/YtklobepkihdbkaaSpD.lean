/- The program's address space: one operation. -/
import Derived.Test.YtklobepkihdbkaaSpT
import Derived.Test.YtklobepkihdbkaaSpC
namespace Go.Proofs.Ytklobepkihdbkaa.SpD
open Go.RowKit Go.MuLone Go.Proofs.YtklobepkihdbkaaW.PrintWords Mem Sp SpI SpA SpP SpQ SpL SpT SpC
set_option linter.unusedVariables false
set_option linter.unusedSimpArgs false
/-- What an operation answers (code, data) and leaves. -/
def doC (bud : Int) (A : Pages) (k p c a n : Int) (d : List Int) : Int :=
  if k = 0 then commitC bud A p c else if k = 1 then rangeC A p c else if k = 2 then rangeC A p c else if k = 3 then rangeC A p c else if k = 4 then accessC A a n else if k = 5 then accessC A a d.length else 6
def doD (A : Pages) (k a n : Int) : List Int := if k = 4 then (if accessC A a n = 0 then loadD A a n else []) else []
def doA (bud : Int) (A : Pages) (k p c a : Int) (d : List Int) : Pages :=
  if k = 0 then commitA bud A p c else if k = 1 then decommitA A p c else if k = 2 then lockA A p c (!true) else if k = 3 then lockA A p c (!false) else if k = 5 then storeA A a d else A
def DoPost (w : World) (F : Nat → Prop) (sb : Nat) (bud code : Int) (data : List Int) (A : Pages) (e : Ending) (w' : World) : Prop :=
  ∃ v G, e = .returned (.agg #[.int .i64 code, v]) ∧ ISpace w' G sb 0 bud A ∧ (∀ k, G k → F k ∨ w.heap.size ≤ k) ∧ Turn w w' F ∧ (Kd.int .u8).R 5 w' w.heap.size (fun k => ¬ G k) v data
theorem no_fin {w : World} {F : Nat → Prop} {sb : Nat} {bud : Int} {A : Pages} (h : ISpace w F sb 0 bud A) (o1 o2 : Obj) : DoPost w F sb bud 6 [] A (.returned (.agg #[.int .i64 6, .slice none 0 0])) ((w.alloc o1).alloc o2) :=
  ⟨_, F, rfl, h.turned (G := fun _ => False) (((Turn.refl w _).alloc _).alloc _) (fun _ _ e => e), fun k hk => .inl hk, ((Turn.refl w _).alloc _).alloc _, Kd.R_nil _ _ _ _ _⟩
theorem do_fin {w w1 w2 : World} {F G : Nat → Prop} {sb : Nat} {bud code : Int} {A : Pages} {c0 v0 : Value} (hT1 : Turn w w1 F) (hz : w1.heap.size = w.heap.size + 2) (hI : ISpace w2 G sb 0 bud A) (hG : ∀ k, G k → F k ∨ w1.heap.size ≤ k) (hT : Turn w1 w2 F) (hF : ∀ k, F k → k < w.heap.size) :
    DoPost w F sb bud code [] A (.returned (.agg #[.int .i64 code, .slice none 0 0])) (((w2.setCell ⟨w.heap.size + 1, 0, none⟩ c0).setCell ⟨w.heap.size + 1, 0, none⟩ c0).setCell ⟨w.heap.size + 1, 1, none⟩ v0) := by
  have hg : ∀ k, G k → k ≠ w.heap.size + 1 := fun k hk e => by
    rcases hG k hk with h | h
    · have := hF k h; omega
    · omega
  refine ⟨_, G, rfl, hI.move (fun k hk => ?_) (by simp only [set_size]; exact Nat.le_refl _), fun k hk => (hG k hk).imp id (fun h => by omega), ?_, Kd.R_nil _ _ _ _ _⟩
  · rw [Below.heap_setCell _ _ _ _ (hg k hk), Below.heap_setCell _ _ _ _ (hg k hk), Below.heap_setCell _ _ _ _ (hg k hk)]
  · exact (((hT1.trans hT (fun k hk => .inl hk)).setCell (p := ⟨w.heap.size + 1, 0, none⟩) (.inr (Nat.le_succ _)) _).setCell (p := ⟨w.heap.size + 1, 0, none⟩) (.inr (Nat.le_succ _)) _).setCell (p := ⟨w.heap.size + 1, 1, none⟩) (.inr (Nat.le_succ _)) _
theorem load_fin {w w1 w2 : World} {F : Nat → Prop} {sb : Nat} {bud code : Int} {A : Pages} {c0 v v0 v1 : Value} {data : List Int} (hT1 : Turn w w1 F) (hz : w1.heap.size = w.heap.size + 2) (hI : ISpace w2 F sb 0 bud A) (hT : Turn w1 w2 F) (hF : ∀ k, F k → k < w.heap.size) (hR : (Kd.int .u8).R 5 w2 w1.heap.size (fun _ => True) v data) :
    DoPost w F sb bud code data A (.returned (.agg #[.int .i64 code, v])) ((((w2.setCell ⟨w.heap.size + 1, 1, none⟩ v0).setCell ⟨w.heap.size + 1, 0, none⟩ c0).setCell ⟨w.heap.size + 1, 0, none⟩ c0).setCell ⟨w.heap.size + 1, 1, none⟩ v1) := by
  have hg : ∀ k, F k → k ≠ w.heap.size + 1 := fun k hk e => by have := hF k hk; omega
  refine ⟨_, F, rfl, hI.move (fun k hk => ?_) (by simp only [set_size]; exact Nat.le_refl _), fun k hk => .inl hk, ?_, ?_⟩
  · rw [Below.heap_setCell _ _ _ _ (hg k hk), Below.heap_setCell _ _ _ _ (hg k hk), Below.heap_setCell _ _ _ _ (hg k hk), Below.heap_setCell _ _ _ _ (hg k hk)]
  · exact ((((hT1.trans hT (fun k hk => .inl hk)).setCell (p := ⟨w.heap.size + 1, 1, none⟩) (.inr (Nat.le_succ _)) _).setCell (p := ⟨w.heap.size + 1, 0, none⟩) (.inr (Nat.le_succ _)) _).setCell (p := ⟨w.heap.size + 1, 0, none⟩) (.inr (Nat.le_succ _)) _).setCell (p := ⟨w.heap.size + 1, 1, none⟩) (.inr (Nat.le_succ _)) _
  · have h1 := Kd.R_mono (ok' := fun k => w.heap.size + 2 ≤ k) (Kd.R_bound hR) (fun k hk => by have := hk.2.1; omega)
    have hn : ∀ k, w.heap.size + 2 ≤ k → k ≠ w.heap.size + 1 := fun k hk => by omega
    exact Kd.R_mono (Kd.R_lower (Kd.R_far (Kd.R_far (Kd.R_far (Kd.R_far h1 (p := ⟨w.heap.size + 1, 1, none⟩) hn _) (p := ⟨w.heap.size + 1, 0, none⟩) hn _) (p := ⟨w.heap.size + 1, 0, none⟩) hn _) (p := ⟨w.heap.size + 1, 1, none⟩) hn _) (by omega)) (fun k hk e => by have := hF k e; omega)
set_option maxRecDepth 100000 in
set_option maxHeartbeats 4000000 in
theorem do_is {F : Nat → Prop} {sb : Nat} {bud : Int} {A : Pages} (w : World) (k p c a n : Int) (Ad : Option Addr) (cd : Nat) (d : List Int) (h : ISpace w F sb 0 bud A) (ha : 0 ≤ a) (hA : a ≤ 18446744073709551615)
    (hd : (Kd.int .u8).C w Ad d.length d) (hdF : ∀ ad, Ad = some ad → 0 < d.length → ¬ F ad.block) :
    Calls Try.prog 43 #[.pointer (some ⟨sb, 0, none⟩), .agg #[.int .i64 k, .int .i64 p, .int .i64 c, .int .u64 a, .int .i64 n, .slice Ad d.length cd]] w (DoPost w F sb bud (doC bud A k p c a n d) (doD A k a n) (doA bud A k p c a d)) := by
  obtain ⟨wb, hwb⟩ : ∃ x, (w.alloc (.cells #[.int .i64 k, .int .i64 p, .int .i64 c, .int .u64 a, .int .i64 n, .slice Ad d.length cd] 52)).alloc (.cells #[.int .i64 0, .slice none 0 0] 54) = x := ⟨_, rfl⟩
  have hT1 : Turn w ((w.alloc (.cells #[.int .i64 k, .int .i64 p, .int .i64 c, .int .u64 a, .int .i64 n, .slice Ad d.length cd] 52)).alloc (.cells #[.int .i64 0, .slice none 0 0] 54)) (fun _ => False) := ((Turn.refl w _).alloc _).alloc _
  have hz : wb.heap.size = w.heap.size + 2 := by rw [← hwb]; simp
  have hbx : wb.heap[w.heap.size]? = some (.cells #[.int .i64 k, .int .i64 p, .int .i64 c, .int .u64 a, .int .i64 n, .slice Ad d.length cd] 52 (0, 0)) := by rw [← hwb]; exact alloc_old (alloc_new w _) _
  have hba : wb.heap[w.heap.size + 1]? = some (.cells #[.int .i64 0, .slice none 0 0] 54 (0, 0)) := by
    rw [← hwb]
    have := alloc_new (w.alloc (.cells #[.int .i64 k, .int .i64 p, .int .i64 c, .int .u64 a, .int .i64 n, .slice Ad d.length cd] 52)) (.cells #[.int .i64 0, .slice none 0 0] 54)
    simpa using this
  rw [hwb] at hT1
  have hI1 := h.turned hT1 (fun _ _ e => e)
  have hd1 := C_move hd (fun ad he hn0 => hT1.block ad.block (C_lt hd ad he hn0) (fun e => e))
  have HB := Lib.hid h.bound
  have HW := Lib.hid h
  have HWB := Lib.hid hwb
  have HT1 := Lib.hid (hT1.mono (G := F) (fun _ e => e.elim))
  have HI1 := Lib.hid hI1
  have HBX := Lib.hid hbx
  have HBA := Lib.hid hba
  have HD1 := Lib.hid hd1
  have HDF := Lib.hid hdF
  have HA := Lib.hid hA
  have HZ := Lib.hid hz
  clear h hd hI1 hT1 hbx hba hd1 hdF hA hz hwb
  by_cases c0 : k = 0
  · subst c0
    have e1 : doC bud A 0 p c a n d = commitC bud A p c := rfl
    have e2 : doA bud A 0 p c a d = commitA bud A p c := rfl
    have e3 : doD A 0 a n = [] := rfl
    rw [e1, e2, e3]
    clear e1 e2 e3
    have HC := Lib.hid (commit_is wb p c HI1.out)
    obtain ⟨code, hcode⟩ : ∃ x, commitC bud A p c = x := ⟨_, rfl⟩
    rw [hcode] at HC ⊢
    clear hcode
    have k0 := bcell HBX.out 0
    have k1 := bcell HBX.out 1
    have k2 := bcell HBX.out 2
    simp only [List.getElem?_toArray, List.getElem?_cons_succ, List.getElem?_cons_zero] at k0 k1 k2
    go_enter Try.func43, Try.ntmps43
    go_wp2_with fail
    rw [HWB.out]
    refine HC.out.mono ?_
    rintro e w2 ⟨rfl, G, hI, hG, hT⟩
    have hnf : ¬ F (w.heap.size + 1) := fun e => by have := HB.out _ e; omega
    have hb2 := hT.blk hnf HBA.out
    have q0 := bcell hb2 0
    have q1 := bcell hb2 1
    have z0 := bfroz hb2 0
    have z1 := bfroz hb2 1
    simp only [List.getElem?_toArray, List.getElem?_cons_succ, List.getElem?_cons_zero] at q0 q1
    have HI := Lib.hid hI
    have HG := Lib.hid hG
    have HT := Lib.hid hT
    clear hI hG hT hb2 hnf k0 k1 k2
    go_wp2
    refine bodyPost_ret (v := .agg #[.int .i64 code, .slice none 0 0]) ?_ rfl (do_fin HT1.out HZ.out HI.out HG.out HT.out HB.out)
    simp [results, Try.results43, go_sem, q0, q1]
  by_cases c1 : k = 1
  · subst c1
    have e1 : doC bud A 1 p c a n d = rangeC A p c := rfl
    have e2 : doA bud A 1 p c a d = decommitA A p c := rfl
    have e3 : doD A 1 a n = [] := rfl
    rw [e1, e2, e3]
    clear e1 e2 e3
    have HC := Lib.hid (decommit_is wb p c HI1.out)
    obtain ⟨code, hcode⟩ : ∃ x, rangeC A p c = x := ⟨_, rfl⟩
    rw [hcode] at HC ⊢
    clear hcode
    have k0 := bcell HBX.out 0
    have k1 := bcell HBX.out 1
    have k2 := bcell HBX.out 2
    simp only [List.getElem?_toArray, List.getElem?_cons_succ, List.getElem?_cons_zero] at k0 k1 k2
    go_enter Try.func43, Try.ntmps43
    go_wp2_with fail
    rw [HWB.out]
    refine HC.out.mono ?_
    rintro e w2 ⟨rfl, G, hI, hG, hT⟩
    have hnf : ¬ F (w.heap.size + 1) := fun e => by have := HB.out _ e; omega
    have hb2 := hT.blk hnf HBA.out
    have q0 := bcell hb2 0
    have q1 := bcell hb2 1
    have z0 := bfroz hb2 0
    have z1 := bfroz hb2 1
    simp only [List.getElem?_toArray, List.getElem?_cons_succ, List.getElem?_cons_zero] at q0 q1
    have HI := Lib.hid hI
    have HG := Lib.hid hG
    have HT := Lib.hid hT
    clear hI hG hT hb2 hnf k0 k1 k2
    go_wp2
    refine bodyPost_ret (v := .agg #[.int .i64 code, .slice none 0 0]) ?_ rfl (do_fin HT1.out HZ.out HI.out HG.out HT.out HB.out)
    simp [results, Try.results43, go_sem, q0, q1]
  by_cases c2 : k = 2
  · subst c2
    have e1 : doC bud A 2 p c a n d = rangeC A p c := rfl
    have e2 : doA bud A 2 p c a d = lockA A p c (!true) := rfl
    have e3 : doD A 2 a n = [] := rfl
    rw [e1, e2, e3]
    clear e1 e2 e3
    have HC := Lib.hid (lock_is wb p c true HI1.out)
    obtain ⟨code, hcode⟩ : ∃ x, rangeC A p c = x := ⟨_, rfl⟩
    rw [hcode] at HC ⊢
    clear hcode
    have k0 := bcell HBX.out 0
    have k1 := bcell HBX.out 1
    have k2 := bcell HBX.out 2
    simp only [List.getElem?_toArray, List.getElem?_cons_succ, List.getElem?_cons_zero] at k0 k1 k2
    go_enter Try.func43, Try.ntmps43
    go_wp2_with fail
    rw [HWB.out]
    refine HC.out.mono ?_
    rintro e w2 ⟨rfl, G, hI, hG, hT⟩
    have hnf : ¬ F (w.heap.size + 1) := fun e => by have := HB.out _ e; omega
    have hb2 := hT.blk hnf HBA.out
    have q0 := bcell hb2 0
    have q1 := bcell hb2 1
    have z0 := bfroz hb2 0
    have z1 := bfroz hb2 1
    simp only [List.getElem?_toArray, List.getElem?_cons_succ, List.getElem?_cons_zero] at q0 q1
    have HI := Lib.hid hI
    have HG := Lib.hid hG
    have HT := Lib.hid hT
    clear hI hG hT hb2 hnf k0 k1 k2
    go_wp2
    refine bodyPost_ret (v := .agg #[.int .i64 code, .slice none 0 0]) ?_ rfl (do_fin HT1.out HZ.out HI.out HG.out HT.out HB.out)
    simp [results, Try.results43, go_sem, q0, q1]
  by_cases c3 : k = 3
  · subst c3
    have e1 : doC bud A 3 p c a n d = rangeC A p c := rfl
    have e2 : doA bud A 3 p c a d = lockA A p c (!false) := rfl
    have e3 : doD A 3 a n = [] := rfl
    rw [e1, e2, e3]
    clear e1 e2 e3
    have HC := Lib.hid (lock_is wb p c false HI1.out)
    obtain ⟨code, hcode⟩ : ∃ x, rangeC A p c = x := ⟨_, rfl⟩
    rw [hcode] at HC ⊢
    clear hcode
    have k0 := bcell HBX.out 0
    have k1 := bcell HBX.out 1
    have k2 := bcell HBX.out 2
    simp only [List.getElem?_toArray, List.getElem?_cons_succ, List.getElem?_cons_zero] at k0 k1 k2
    go_enter Try.func43, Try.ntmps43
    go_wp2_with fail
    rw [HWB.out]
    refine HC.out.mono ?_
    rintro e w2 ⟨rfl, G, hI, hG, hT⟩
    have hnf : ¬ F (w.heap.size + 1) := fun e => by have := HB.out _ e; omega
    have hb2 := hT.blk hnf HBA.out
    have q0 := bcell hb2 0
    have q1 := bcell hb2 1
    have z0 := bfroz hb2 0
    have z1 := bfroz hb2 1
    simp only [List.getElem?_toArray, List.getElem?_cons_succ, List.getElem?_cons_zero] at q0 q1
    have HI := Lib.hid hI
    have HG := Lib.hid hG
    have HT := Lib.hid hT
    clear hI hG hT hb2 hnf k0 k1 k2
    go_wp2
    refine bodyPost_ret (v := .agg #[.int .i64 code, .slice none 0 0]) ?_ rfl (do_fin HT1.out HZ.out HI.out HG.out HT.out HB.out)
    simp [results, Try.results43, go_sem, q0, q1]
  by_cases c5 : k = 5
  · subst c5
    have e1 : doC bud A 5 p c a n d = accessC A a d.length := rfl
    have e2 : doA bud A 5 p c a d = storeA A a d := rfl
    have e3 : doD A 5 a n = [] := rfl
    rw [e1, e2, e3]
    clear e1 e2 e3
    have HC := Lib.hid (store_is wb a Ad cd d HI1.out ha HA.out HD1.out HDF.out)
    obtain ⟨code, hcode⟩ : ∃ x, accessC A a d.length = x := ⟨_, rfl⟩
    rw [hcode] at HC ⊢
    clear hcode
    have k0 := bcell HBX.out 0
    have k3 := bcell HBX.out 3
    have k5 := bcell HBX.out 5
    simp only [List.getElem?_toArray, List.getElem?_cons_succ, List.getElem?_cons_zero] at k0 k3 k5
    go_enter Try.func43, Try.ntmps43
    go_wp2_with fail
    rw [HWB.out]
    refine HC.out.mono ?_
    rintro e w2 ⟨rfl, G, hI, hG, hT⟩
    have hnf : ¬ F (w.heap.size + 1) := fun e => by have := HB.out _ e; omega
    have hb2 := hT.blk hnf HBA.out
    have q0 := bcell hb2 0
    have q1 := bcell hb2 1
    have z0 := bfroz hb2 0
    have z1 := bfroz hb2 1
    simp only [List.getElem?_toArray, List.getElem?_cons_succ, List.getElem?_cons_zero] at q0 q1
    have HI := Lib.hid hI
    have HG := Lib.hid hG
    have HT := Lib.hid hT
    clear hI hG hT hb2 hnf k0 k3 k5
    go_wp2
    refine bodyPost_ret (v := .agg #[.int .i64 code, .slice none 0 0]) ?_ rfl (do_fin HT1.out HZ.out HI.out HG.out HT.out HB.out)
    simp [results, Try.results43, go_sem, q0, q1]
  by_cases c4 : k = 4
  · subst c4
    have e1 : doC bud A 4 p c a n d = accessC A a n := rfl
    have e2 : doA bud A 4 p c a d = A := rfl
    have e3 : doD A 4 a n = if accessC A a n = 0 then loadD A a n else [] := rfl
    rw [e1, e2, e3]
    clear e1 e2 e3
    have HC := Lib.hid (load_is wb a n HI1.out ha HA.out)
    obtain ⟨data, hdata⟩ : ∃ x, (if accessC A a n = 0 then loadD A a n else []) = x := ⟨_, rfl⟩
    rw [hdata] at HC ⊢
    obtain ⟨code, hcode⟩ : ∃ x, accessC A a n = x := ⟨_, rfl⟩
    rw [hcode] at HC ⊢
    clear hcode hdata
    have k0 := bcell HBX.out 0
    have k3 := bcell HBX.out 3
    have k4 := bcell HBX.out 4
    simp only [List.getElem?_toArray, List.getElem?_cons_succ, List.getElem?_cons_zero] at k0 k3 k4
    go_enter Try.func43, Try.ntmps43
    go_wp2_with fail
    rw [HWB.out]
    refine HC.out.mono ?_
    rintro e w2 ⟨v, rfl, hR, hI, hT⟩
    obtain ⟨Av, cv, rfl, _, _⟩ := Kd.R_reads hR
    have hnf : ¬ F (w.heap.size + 1) := fun e => by have := HB.out _ e; omega
    have hb2 := hT.blk hnf HBA.out
    have q0 := bcell hb2 0
    have q1 := bcell hb2 1
    have z0 := bfroz hb2 0
    have z1 := bfroz hb2 1
    simp only [List.getElem?_toArray, List.getElem?_cons_succ, List.getElem?_cons_zero] at q0 q1
    have HI := Lib.hid hI
    have HR := Lib.hid hR
    have HT := Lib.hid hT
    have HB2 := Lib.hid hb2
    clear hI hR hT hb2 hnf k0 k3 k4
    go_wp2
    refine bodyPost_ret (v := .agg #[.int .i64 code, .slice Av data.length cv]) ?_ rfl (load_fin HT1.out HZ.out HI.out HT.out HB.out HR.out)
    have h3 := bset (bset (bset HB2.out 1 (.slice Av data.length cv)) 0 (.int .i64 code)) 0 (.int .i64 code)
    have h4 := bset h3 1 (.slice Av data.length cv)
    have r0 := bcell h3 0
    have r1 := bcell h3 1
    have r2 := bcell h4 0
    have r3 := bcell h4 1
    simp only [List.setIfInBounds_toArray, List.set_cons_zero, List.set_cons_succ, List.getElem?_toArray, List.getElem?_cons_succ, List.getElem?_cons_zero] at r0 r1 r2 r3
    simp [results, Try.results43, go_sem, r0, r1, r2, r3]
  have e1 : doC bud A k p c a n d = 6 := by unfold doC; rw [if_neg c0, if_neg c1, if_neg c2, if_neg c3, if_neg c4, if_neg c5]
  have e2 : doA bud A k p c a d = A := by unfold doA; rw [if_neg c0, if_neg c1, if_neg c2, if_neg c3, if_neg c5]
  have e3 : doD A k a n = [] := by unfold doD; rw [if_neg c4]
  rw [e1, e2, e3]
  have b0 : (k == 0) = false := by simpa using c0
  have b1 : (k == 1) = false := by simpa using c1
  have b2 : (k == 2) = false := by simpa using c2
  have b3 : (k == 3) = false := by simpa using c3
  have b4 : (k == 4) = false := by simpa using c4
  have b5 : (k == 5) = false := by simpa using c5
  clear e1 e2 e3 c0 c1 c2 c3 c4 c5
  go_enter Try.func43, Try.ntmps43
  go_wp2
  refine bodyPost_ret (v := .agg #[.int .i64 6, .slice none 0 0]) (by simp [results, Try.results43, go_sem]) rfl (no_fin HW.out _ _)
end Go.Proofs.Ytklobepkihdbkaa.SpD
