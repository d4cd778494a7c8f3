/- The reference's address space: one operation. -/
import Derived.Test.YtklobepkihdbkaaSs1
import Derived.Test.YtklobepkihdbkaaSpD
import Derived.Deep.QuietTactic
import Derived.BigQuiet
namespace Go.Proofs.Ytklobepkihdbkaa.SsO
open Go.RowKit Go.Proofs.YtklobepkihdbkaaW.PrintWords Mem Sp SpI SpP SpQ SsR SsM SsD SsE SpD
set_option linter.unusedVariables false
set_option linter.unusedSimpArgs false
def SDo (w : World) (F : Nat → Prop) (sb : Nat) (bud code : Int) (data : List Int) (A : Pages) (e : Ending) (w' : World) : Prop :=
  ∃ v G, e = .returned (.agg #[.int .i64 code, v]) ∧ SSpace w' G sb bud A ∧ (∀ k, G k → F k ∨ w.heap.size ≤ k) ∧ Turn w w' F ∧ (Kd.int .u8).R 5 w' w.heap.size (fun k => ¬ G k) v data
theorem SSpace.drewN {w : World} {F : Nat → Prop} {sb : Nat} {bud : Int} {A : Pages} (h : SSpace w F sb bud A) (n : Nat) : SSpace (w.drewN n) F sb bud A := h.turned (G := fun _ => False) ((Turn.refl w _).drewN n) (fun _ _ e => e)
theorem sno_fin {w : World} {F : Nat → Prop} {sb : Nat} {bud : Int} {A : Pages} (h : SSpace w F sb bud A) (o1 o2 : Obj) : SDo w F sb bud 6 [] A (.returned (.agg #[.int .i64 6, .slice none 0 0])) ((w.alloc o1).alloc o2) :=
  ⟨_, F, rfl, h.turned (G := fun _ => False) (((Turn.refl w _).alloc _).alloc _) (fun _ _ e => e), fun k hk => .inl hk, ((Turn.refl w _).alloc _).alloc _, Kd.R_nil _ _ _ _ _⟩
theorem sdo_fin {w W : World} {F G : Nat → Prop} {sb : Nat} {bud code : Int} {A : Pages} {data : List Int} {v : Value} (hI : SSpace W G sb bud A) (hG : ∀ k, G k → F k ∨ w.heap.size + 2 ≤ k) (hT : Turn w W F) (hF : ∀ k, F k → k < w.heap.size) (hR : (Kd.int .u8).R 5 W (w.heap.size + 2) (fun k => ¬ G k) v data) (c0 v0 : Value) :
    SDo w F sb bud code data A (.returned (.agg #[.int .i64 code, v])) ((W.setCell ⟨w.heap.size + 1, 0, none⟩ c0).setCell ⟨w.heap.size + 1, 1, none⟩ v0) := by
  have hn : ∀ k, G k → k ≠ w.heap.size + 1 := fun k hk e => by
    rcases hG k hk with h | h
    · have := hF k h; omega
    · omega
  refine ⟨_, G, rfl, hI.turned (G := fun k => k = w.heap.size + 1) ((((Turn.refl W (fun k => k = w.heap.size + 1)).setCell (p := ⟨w.heap.size + 1, 0, none⟩) (.inl rfl) _).setCell (p := ⟨w.heap.size + 1, 1, none⟩) (.inl rfl) _)) hn, fun k hk => (hG k hk).imp id (fun h => by omega), (hT.setCell (p := ⟨w.heap.size + 1, 0, none⟩) (.inr (by show _ ≤ w.heap.size + 1; omega)) _).setCell (p := ⟨w.heap.size + 1, 1, none⟩) (.inr (by show _ ≤ w.heap.size + 1; omega)) _, ?_⟩
  have h1 := Kd.R_mono (ok' := fun k => w.heap.size + 2 ≤ k ∧ ¬ G k) (Kd.R_bound hR) (fun k hk => ⟨hk.2.1, hk.1⟩)
  have hne : ∀ k, (w.heap.size + 2 ≤ k ∧ ¬ G k) → k ≠ w.heap.size + 1 := fun k hk => by omega
  exact Kd.R_mono (Kd.R_lower (Kd.R_far (Kd.R_far h1 (p := ⟨w.heap.size + 1, 0, none⟩) hne _) (p := ⟨w.heap.size + 1, 1, none⟩) hne _) (by omega)) (fun k hk => hk.2)
set_option maxRecDepth 100000 in
set_option maxHeartbeats 8000000 in
theorem do_range {F : Nat → Prop} {sb : Nat} {bud : Int} {A : Pages} (w : World) (k p c a n : Int) (Ad : Option Addr) (cd : Nat) (d : List Int) (h : SSpace w F sb bud A) (hk : k = 0 ∨ k = 1 ∨ k = 2 ∨ k = 3) (hr : ¬ within A.length p c) :
    Calls Try.prog 46 #[.pointer (some ⟨sb, 0, none⟩), .agg #[.int .i64 k, .int .i64 p, .int .i64 c, .int .u64 a, .int .i64 n, .slice Ad d.length cd]] w (SDo w F sb bud 6 [] A) := by
  obtain ⟨wb, hwb⟩ : ∃ x, (w.alloc (.cells #[.int .i64 k, .int .i64 p, .int .i64 c, .int .u64 a, .int .i64 n, .slice Ad d.length cd] 52)).alloc (.cells #[.int .i64 0, .slice none 0 0] 54) = x := ⟨_, rfl⟩
  have hT1 : Turn w ((w.alloc (.cells #[.int .i64 k, .int .i64 p, .int .i64 c, .int .u64 a, .int .i64 n, .slice Ad d.length cd] 52)).alloc (.cells #[.int .i64 0, .slice none 0 0] 54)) (fun _ => False) := ((Turn.refl w _).alloc _).alloc _
  have hz : wb.heap.size = w.heap.size + 2 := by rw [← hwb]; simp
  have hbx : wb.heap[w.heap.size]? = some (.cells #[.int .i64 k, .int .i64 p, .int .i64 c, .int .u64 a, .int .i64 n, .slice Ad d.length cd] 52 (0, 0)) := by rw [← hwb]; exact alloc_old (alloc_new w _) _
  have hba : wb.heap[w.heap.size + 1]? = some (.cells #[.int .i64 0, .slice none 0 0] 54 (0, 0)) := by
    rw [← hwb]
    have := alloc_new (w.alloc (.cells #[.int .i64 k, .int .i64 p, .int .i64 c, .int .u64 a, .int .i64 n, .slice Ad d.length cd] 52)) (.cells #[.int .i64 0, .slice none 0 0] 54)
    simpa using this
  rw [hwb] at hT1
  have hI1 := h.turned hT1 (fun _ _ e => e)
  have HI1 := Lib.hid hI1
  obtain ⟨rb, Ar, cr, db, hI⟩ := hI1
  obtain ⟨s0, s1⟩ := hI.scells
  have hlen := hI.len
  have k0 := bcell hbx 0
  have k1 := bcell hbx 1
  have k2 := bcell hbx 2
  have k3 := bcell hbx 3
  have k4 := bcell hbx 4
  have k5 := bcell hbx 5
  have q0 := bcell hba 0
  have q1 := bcell hba 1
  have z0 := bfroz hba 0
  have z1 := bfroz hba 1
  simp only [List.getElem?_toArray, List.getElem?_cons_succ, List.getElem?_cons_zero] at k0 k1 k2 k3 k4 k5 q0 q1
  have HB := Lib.hid h.bound
  have HWB := Lib.hid hwb
  have HT1 := Lib.hid (hT1.mono (G := F) (fun _ e => e.elim))
  have HI := Lib.hid hI
  have HBX := Lib.hid hbx
  have HBA := Lib.hid hba
  have HZ := Lib.hid hz
  have HGF : Hid (∀ k, F k → F k ∨ w.heap.size + 2 ≤ k) := Lib.hid (fun k hk => .inl hk)
  have HR := Lib.hid hr
  clear h hI hT1 hbx hba hwb hz hr
  by_cases c1 : c < 1
  · have d1 : decide (c < 1) = true := by simpa using c1
    rcases hk with rfl | rfl | rfl | rfl
    all_goals
      go_enter Try.func46, Try.ntmps46
      go_upto_region 11 with fail
      rw [HWB.out]
      go_quiet (fail)
      go_wp2
      refine bodyPost_ret (v := .agg #[.int .i64 6, .slice none 0 0]) ?_ rfl (sdo_fin (SSpace.drewN HI1.out nq) HGF.out (HT1.out.drewN nq) HB.out (Kd.R_nil _ _ _ _ _) _ _)
      simp [results, Try.results46, go_sem, q0, q1]
  have d1 : decide (c < 1) = false := by simpa using c1
  by_cases c2 : p < 0
  · have d2 : decide (p < 0) = true := by simpa using c2
    rcases hk with rfl | rfl | rfl | rfl
    all_goals
      go_enter Try.func46, Try.ntmps46
      go_upto_region 11 with fail
      rw [HWB.out]
      go_quiet (fail)
      go_wp2
      refine bodyPost_ret (v := .agg #[.int .i64 6, .slice none 0 0]) ?_ rfl (sdo_fin (SSpace.drewN HI1.out nq) HGF.out (HT1.out.drewN nq) HB.out (Kd.R_nil _ _ _ _ _) _ _)
      simp [results, Try.results46, go_sem, q0, q1]
  have d2 : decide (p < 0) = false := by simpa using c2
  by_cases c3 : (A.length : Int) < c
  · have d3 : decide ((A.length : Int) < c) = true := by simpa using c3
    rcases hk with rfl | rfl | rfl | rfl
    all_goals
      go_enter Try.func46, Try.ntmps46
      go_upto_region 11 with fail
      rw [HWB.out]
      go_quiet (fail)
      go_wp2
      refine bodyPost_ret (v := .agg #[.int .i64 6, .slice none 0 0]) ?_ rfl (sdo_fin (SSpace.drewN HI1.out nq) HGF.out (HT1.out.drewN nq) HB.out (Kd.R_nil _ _ _ _ _) _ _)
      simp [results, Try.results46, go_sem, q0, q1]
  have d3 : decide ((A.length : Int) < c) = false := by simpa using c3
  have c4 : (A.length : Int) - c < p := by
    have := HR.out
    unfold within at this
    omega
  have wr1 : IntKind.i64.wrap ((A.length : Int) - c) = (A.length : Int) - c := IntWalk.i64_in _ (by omega)
  have d4 : decide ((A.length : Int) - c < p) = true := by simpa using c4
  rcases hk with rfl | rfl | rfl | rfl
  all_goals
    go_enter Try.func46, Try.ntmps46
    go_upto_region 11 with fail
    rw [HWB.out]
    go_quiet (fail)
    go_wp2
    refine bodyPost_ret (v := .agg #[.int .i64 6, .slice none 0 0]) ?_ rfl (sdo_fin (SSpace.drewN HI1.out nq) HGF.out (HT1.out.drewN nq) HB.out (Kd.R_nil _ _ _ _ _) _ _)
    simp [results, Try.results46, go_sem, q0, q1]
/-- What stands while the pages are looked at. -/
structure Sit (w : World) (F : Nat → Prop) (sb rb cr : Nat) (Ar : Option Addr) (db : Nat → Nat) (bud : Int) (A : Pages) (ob : Array Value) (W : World) : Prop where
  s : SSp W F sb rb Ar cr db bud A
  t : Turn w W F
  o : W.heap[w.heap.size]? = some (.cells ob 52 (0, 0))
  a : W.heap[w.heap.size + 1]? = some (.cells #[.int .i64 0, .slice none 0 0] 54 (0, 0))
theorem Sit.drewN {w W : World} {F : Nat → Prop} {sb rb cr : Nat} {Ar : Option Addr} {db : Nat → Nat} {bud : Int} {A : Pages} {ob : Array Value} (h : Sit w F sb rb cr Ar db bud A ob W) (n : Nat) : Sit w F sb rb cr Ar db bud A ob (W.drewN n) :=
  ⟨h.s.move (fun _ _ => rfl) (Nat.le_refl _), h.t.drewN n, h.o, h.a⟩
theorem Sit.drewX {w W : World} {F : Nat → Prop} {sb rb cr : Nat} {Ar : Option Addr} {db : Nat → Nat} {bud : Int} {A : Pages} {ob : Array Value} (h : Sit w F sb rb cr Ar db bud A ob W) : Sit w F sb rb cr Ar db bud A ob W.drew :=
  ⟨h.s.move (fun _ _ => rfl) (Nat.le_refl _), h.t.drew, h.o, h.a⟩
theorem SSp.lock1 {w : World} {F : Nat → Prop} {sb rb cr : Nat} {Ar : Option Addr} {db : Nat → Nat} {bud : Int} {A : Pages} (h : SSp w F sb rb Ar cr db bud A) {k : Nat} {bs : List Int} {op : Bool} (hx : pg A k = some (bs, op)) (op' : Bool) :
    SSp (w.setCell ⟨rb, k * 3 + 1, none⟩ (.bool op')) F sb rb Ar cr db bud (A.set k (some (bs, op'))) := by
  have hs : (pg A k).isSome = true := by rw [hx]; rfl
  have hk := pg_lt hs
  obtain ⟨hl, hF, hd⟩ := h.hd k bs op hx
  obtain ⟨_, c0, c1, c2, _⟩ := h.cells hk
  rw [hx] at c0 c2
  have hn := (h.data_ne hs).2
  have hp := SSp.page (w2 := w.setCell ⟨rb, k * 3 + 1, none⟩ (.bool op')) h hk (some (bs, op')) (db k) (fun cs hc hz => by
      refine ⟨_, bset hc _ _, by simp, fun i h0 h1 h2 => ?_, ?_, ?_, ?_⟩
      · simp [Array.getElem?_setIfInBounds, Ne.symm h1]
      · rw [Array.getElem?_setIfInBounds, if_neg (by omega), ← bcell hc]; exact c0
      · simp [Array.getElem?_setIfInBounds, show k * 3 + 1 < cs.size by omega, opV, opened]
      · rw [Array.getElem?_setIfInBounds, if_neg (by omega), ← bcell hc]; exact c2)
    (fun j hj hn => Below.heap_setCell _ _ _ _ hn) (by rw [set_size]; exact Nat.le_refl _)
    (fun bs2 op2 e => by
      cases e
      exact ⟨hl, (Below.heap_setCell _ _ _ _ hn).trans hd, fun k' hk' hs' e => hk' (h.inj k' k hs' hs e)⟩)
  have he : (fun i => if i = k then db k else db i) = db := funext fun i => by by_cases e : i = k <;> simp [e]
  rw [he] at hp
  exact SSp.widen hp (fun i hi => hi.elim id (fun e => by rw [e.2]; exact hF)) (fun i hi => by rw [set_size]; exact h.bound i hi)
set_option maxRecDepth 100000 in
set_option maxHeartbeats 8000000 in
theorem do_ok0 {F : Nat → Prop} {sb : Nat} {bud : Int} {A : Pages} (w : World) (p c a n : Int) (Ad : Option Addr) (cd : Nat) (d : List Int) (h : SSpace w F sb bud A) (hr : within A.length p c) :
    Calls Try.prog 46 #[.pointer (some ⟨sb, 0, none⟩), .agg #[.int .i64 0, .int .i64 p, .int .i64 c, .int .u64 a, .int .i64 n, .slice Ad d.length cd]] w (SDo w F sb bud (commitC bud A p c) [] (commitA bud A p c)) := by
  have HR := Lib.hid hr
  obtain ⟨wb, hwb⟩ : ∃ x, (w.alloc (.cells #[.int .i64 0, .int .i64 p, .int .i64 c, .int .u64 a, .int .i64 n, .slice Ad d.length cd] 52)).alloc (.cells #[.int .i64 0, .slice none 0 0] 54) = x := ⟨_, rfl⟩
  have hT1 : Turn w ((w.alloc (.cells #[.int .i64 0, .int .i64 p, .int .i64 c, .int .u64 a, .int .i64 n, .slice Ad d.length cd] 52)).alloc (.cells #[.int .i64 0, .slice none 0 0] 54)) (fun _ => False) := ((Turn.refl w _).alloc _).alloc _
  have hz : wb.heap.size = w.heap.size + 2 := by rw [← hwb]; simp
  have hbx : wb.heap[w.heap.size]? = some (.cells #[.int .i64 0, .int .i64 p, .int .i64 c, .int .u64 a, .int .i64 n, .slice Ad d.length cd] 52 (0, 0)) := by rw [← hwb]; exact alloc_old (alloc_new w _) _
  have hba : wb.heap[w.heap.size + 1]? = some (.cells #[.int .i64 0, .slice none 0 0] 54 (0, 0)) := by
    rw [← hwb]
    have := alloc_new (w.alloc (.cells #[.int .i64 0, .int .i64 p, .int .i64 c, .int .u64 a, .int .i64 n, .slice Ad d.length cd] 52)) (.cells #[.int .i64 0, .slice none 0 0] 54)
    simpa using this
  rw [hwb] at hT1
  have hI1 := h.turned hT1 (fun _ _ e => e)
  have HI1 := Lib.hid hI1
  obtain ⟨rb, Ar, cr, db, hI⟩ := hI1
  obtain ⟨s0, s1⟩ := hI.scells
  have hlen := hI.len
  have k0 := bcell hbx 0
  have k1 := bcell hbx 1
  have k2 := bcell hbx 2
  have k3 := bcell hbx 3
  have k4 := bcell hbx 4
  have k5 := bcell hbx 5
  have q0 := bcell hba 0
  have q1 := bcell hba 1
  have z0 := bfroz hba 0
  have z1 := bfroz hba 1
  simp only [List.getElem?_toArray, List.getElem?_cons_succ, List.getElem?_cons_zero] at k0 k1 k2 k3 k4 k5 q0 q1
  have HB := Lib.hid h.bound
  have HWB := Lib.hid hwb
  have HT1 := Lib.hid (hT1.mono (G := F) (fun _ e => e.elim))
  have HI := Lib.hid hI
  have HBX := Lib.hid hbx
  have HBA := Lib.hid hba
  have HZ := Lib.hid hz
  have HGF : Hid (∀ k, F k → F k ∨ w.heap.size + 2 ≤ k) := Lib.hid (fun k hk => .inl hk)
  have HS := Lib.hid (Sit.mk (w := w) (F := F) hI (hT1.mono (G := F) (fun _ e => e.elim)) hbx hba)
  clear h hI hT1 hbx hba hwb hz hr
  have d1 : decide (c < 1) = false := by have := HR.out.1; simp; omega
  have d2 : decide (p < 0) = false := by have := HR.out.2.1; simp; omega
  have d3 : decide ((A.length : Int) < c) = false := by have := HR.out.2; simp; omega
  have wr1 : IntKind.i64.wrap ((A.length : Int) - c) = (A.length : Int) - c := IntWalk.i64_in _ (by have := HR.out.2; have := HR.out.1; omega)
  have d4 : decide ((A.length : Int) - c < p) = false := by have := HR.out.2; simp; omega
  go_enter Try.func46, Try.ntmps46
  go_upto_region 11 with fail
  rw [HWB.out]
  go_quiet (fail)
  have HSq := Lib.hid (Sit.drewN HS.out nq)
  obtain ⟨wq, hwq⟩ : ∃ x, wb.drewN nq = x := ⟨_, rfl⟩
  rw [hwq] at HSq ⊢
  clear hwq HS HI HI1 HT1 HBX HBA k0 k1 k2 k3 k4 k5 q0 q1 z0 z1 s0 s1 d1 d2 d3 d4 wr1 HWB
  obtain ⟨pn, rfl⟩ := Int.eq_ofNat_of_zero_le HR.out.2.1
  obtain ⟨cn, rfl⟩ := Int.eq_ofNat_of_zero_le (show 0 ≤ c by have := HR.out.1; omega)
  have hb : pn + cn ≤ A.length := by have := HR.out.2.2; omega
  have hcn : 1 ≤ cn := by have := HR.out.1; omega
  clear HR
  have k1 := bcell HSq.out.o 1
  have k2 := bcell HSq.out.o 2
  simp only [List.getElem?_toArray, List.getElem?_cons_succ, List.getElem?_cons_zero] at k1 k2
  go_upto_block 1 with fail
  go_wp2_with fail
  clear k1 k2
  go_loopw [5] (fun i W => ∃ j : Nat, i = .int .i64 ((pn + j : Nat) : Int) ∧ j ≤ cn ∧ Hid (∀ t, t < j → (pg A (pn + t)).isSome = false) ∧ Hid (Sit w F sb rb cr Ar db bud A #[.int .i64 0, .int .i64 pn, .int .i64 cn, .int .u64 a, .int .i64 n, .slice Ad d.length cd] W)) (fun i _ => pn + cn - (intOf i).toNat)
  case atStart => exact ⟨0, rfl, Nat.zero_le _, Lib.hid (fun t ht => by omega), HSq⟩
  case round =>
    clear HSq
    obtain ⟨j, rfl, hj, HA, HS⟩ := hrel
    obtain ⟨i, hi⟩ : ∃ i, pn + j = i := ⟨_, rfl⟩
    rw [hi]
    have HIX := Lib.hid hi
    have k0 := bcell HS.out.o 0
    have k1 := bcell HS.out.o 1
    have k2 := bcell HS.out.o 2
    have q0 := bcell HS.out.a 0
    have q1 := bcell HS.out.a 1
    have z0 := bfroz HS.out.a 0
    have z1 := bfroz HS.out.a 1
    simp only [List.getElem?_toArray, List.getElem?_cons_succ, List.getElem?_cons_zero] at k0 k1 k2 q0 q1
    obtain ⟨s0, s1⟩ := HS.out.s.scells
    by_cases hlt : j < cn
    · have hlt2 : i < pn + cn := by omega
      have hil : i < A.length := by omega
      obtain ⟨h1, c0, c1, c2, hf⟩ := HS.out.s.cells hil
      subst h1
      unfold onV at c0
      clear hf c1 c2 hi
      cases hon : (pg A i).isSome with
      | true =>
        rw [hon] at c0
        have hno : ¬ allR A pn cn Option.isNone := fun e => by
          have := e j hlt
          rw [HIX.out] at this
          revert this hon
          cases pg A i <;> simp
        have HNO := Lib.hid hno
        clear hon hno
        go_upto_region 16 with fail
        go_quiet (fail)
        go_wp2
        have hc6 : commitC bud A pn cn = 6 := by unfold commitC; rw [Int.toNat_natCast, Int.toNat_natCast, if_neg (fun e => HNO.out e.2)]
        have ha6 : commitA bud A pn cn = A := by unfold commitA; rw [hc6, if_neg (by omega)]
        rw [hc6, ha6]
        refine bodyPost_ret (v := .agg #[.int .i64 6, .slice none 0 0]) ?_ rfl (sdo_fin (SSpace.drewN ⟨_, _, _, _, HS.out.s⟩ nq) HGF.out (HS.out.t.drewN nq) HB.out (Kd.R_nil _ _ _ _ _) _ _)
        simp [results, Try.results46, go_sem, q0, q1]
      | false =>
        rw [hon] at c0
        have HA2 : Hid (∀ t, t < j + 1 → (pg A (pn + t)).isSome = false) := Lib.hid (fun t ht => by
          by_cases e : t = j
          · subst e; rw [HIX.out]; exact hon
          · exact HA.out t (by omega))
        clear hon
        go_upto_region 16 with fail
        go_quiet (fail)
        have HS2 := Lib.hid (Sit.drewN HS.out nq)
        obtain ⟨wz, hwz⟩ : ∃ x, wr.drewN nq = x := ⟨_, rfl⟩
        rw [hwz] at HS2 ⊢
        clear hwz
        go_wp2_with fail
        go_roundw
        case rel => exact ⟨j + 1, by rw [show pn + (j + 1) = i + 1 by have := HIX.out; omega]; go_num, by omega, HA2, HS2⟩
        case measure => simp [intOf]; omega
    · obtain rfl : cn = j := by omega
      have hlt2 : ¬ i < pn + cn := by omega
      have hall : allR A pn cn Option.isNone := fun t ht => by
        have := HA.out t ht
        revert this
        cases pg A (pn + t) <;> simp
      have HALL := Lib.hid hall
      have HSS : Hid (SSpace wr F sb bud A) := Lib.hid ⟨_, _, _, _, HS.out.s⟩
      clear hi hall HA
      have hoc := onCount_le A
      go_wp2_with fail
      refine (SsM.commit_is wr pn cn HSS.out hb).mono ?_
      rintro e w2 ⟨b, G, rfl, hb1, hI2, hG2, hT2⟩
      have hnf : ¬ F (w.heap.size + 1) := fun e => by have := HB.out _ e; omega
      have ha2 := hT2.blk hnf HS.out.a
      have q0 := bcell ha2 0
      have q1 := bcell ha2 1
      have z0 := bfroz ha2 0
      have z1 := bfroz ha2 1
      simp only [List.getElem?_toArray, List.getElem?_cons_succ, List.getElem?_cons_zero] at q0 q1
      have HT2 := Lib.hid (HS.out.t.trans hT2 (fun k e => .inl e))
      have HG2 : Hid (∀ k, G k → F k ∨ w.heap.size + 2 ≤ k) := Lib.hid (fun k hk => (hG2 k hk).imp id (fun h => by have := lt_of HS.out.a; omega))
      have HB1 := Lib.hid hb1
      clear hT2 hG2 ha2 hnf k0 k1 k2 s0 s1 hb1
      cases b with
      | false =>
        have hc : bud < (onCount A : Int) + cn := by have := HB1.out; simpa using this
        have hcc : commitC bud A pn cn = 1 := by unfold commitC; rw [Int.toNat_natCast, Int.toNat_natCast, if_pos ⟨⟨by omega, by omega, by omega, by omega⟩, HALL.out⟩, if_pos hc]
        have haa : commitA bud A pn cn = A := by unfold commitA; rw [hcc, if_neg (by omega)]
        have HCC := Lib.hid hcc
        have HAA := Lib.hid haa
        rw [if_neg (by simp)] at hI2
        have HI2 := Lib.hid hI2
        clear hcc haa hI2 hc
        go_wp2
        rw [HCC.out, HAA.out]
        refine bodyPost_ret (v := .agg #[.int .i64 1, .slice none 0 0]) ?_ rfl (sdo_fin (HI2.out) HG2.out (HT2.out) HB.out (Kd.R_nil _ _ _ _ _) _ _)
        simp [results, Try.results46, go_sem, q0, q1]
      | true =>
        have hc : ¬ bud < (onCount A : Int) + cn := by have := HB1.out; simpa using this
        have hcc : commitC bud A pn cn = 0 := by unfold commitC; rw [Int.toNat_natCast, Int.toNat_natCast, if_pos ⟨⟨by omega, by omega, by omega, by omega⟩, HALL.out⟩, if_neg hc]
        have haa : commitA bud A pn cn = setR A pn cn (fun _ => some (zeros, true)) := by unfold commitA; rw [hcc, if_pos rfl, Int.toNat_natCast, Int.toNat_natCast]
        have HCC := Lib.hid hcc
        have HAA := Lib.hid haa
        rw [if_pos rfl] at hI2
        have HI2 := Lib.hid hI2
        clear hcc haa hI2 hc
        go_wp2
        rw [HCC.out, HAA.out]
        refine bodyPost_ret (v := .agg #[.int .i64 0, .slice none 0 0]) ?_ rfl (sdo_fin (HI2.out) HG2.out (HT2.out) HB.out (Kd.R_nil _ _ _ _ _) _ _)
        simp [results, Try.results46, go_sem, q0, q1]
set_option maxRecDepth 100000 in
set_option maxHeartbeats 8000000 in
theorem do_ok1 {F : Nat → Prop} {sb : Nat} {bud : Int} {A : Pages} (w : World) (p c a n : Int) (Ad : Option Addr) (cd : Nat) (d : List Int) (h : SSpace w F sb bud A) (hr : within A.length p c) :
    Calls Try.prog 46 #[.pointer (some ⟨sb, 0, none⟩), .agg #[.int .i64 1, .int .i64 p, .int .i64 c, .int .u64 a, .int .i64 n, .slice Ad d.length cd]] w (SDo w F sb bud (rangeC A p c) [] (decommitA A p c)) := by
  have HR := Lib.hid hr
  obtain ⟨wb, hwb⟩ : ∃ x, (w.alloc (.cells #[.int .i64 1, .int .i64 p, .int .i64 c, .int .u64 a, .int .i64 n, .slice Ad d.length cd] 52)).alloc (.cells #[.int .i64 0, .slice none 0 0] 54) = x := ⟨_, rfl⟩
  have hT1 : Turn w ((w.alloc (.cells #[.int .i64 1, .int .i64 p, .int .i64 c, .int .u64 a, .int .i64 n, .slice Ad d.length cd] 52)).alloc (.cells #[.int .i64 0, .slice none 0 0] 54)) (fun _ => False) := ((Turn.refl w _).alloc _).alloc _
  have hz : wb.heap.size = w.heap.size + 2 := by rw [← hwb]; simp
  have hbx : wb.heap[w.heap.size]? = some (.cells #[.int .i64 1, .int .i64 p, .int .i64 c, .int .u64 a, .int .i64 n, .slice Ad d.length cd] 52 (0, 0)) := by rw [← hwb]; exact alloc_old (alloc_new w _) _
  have hba : wb.heap[w.heap.size + 1]? = some (.cells #[.int .i64 0, .slice none 0 0] 54 (0, 0)) := by
    rw [← hwb]
    have := alloc_new (w.alloc (.cells #[.int .i64 1, .int .i64 p, .int .i64 c, .int .u64 a, .int .i64 n, .slice Ad d.length cd] 52)) (.cells #[.int .i64 0, .slice none 0 0] 54)
    simpa using this
  rw [hwb] at hT1
  have hI1 := h.turned hT1 (fun _ _ e => e)
  have HI1 := Lib.hid hI1
  obtain ⟨rb, Ar, cr, db, hI⟩ := hI1
  obtain ⟨s0, s1⟩ := hI.scells
  have hlen := hI.len
  have k0 := bcell hbx 0
  have k1 := bcell hbx 1
  have k2 := bcell hbx 2
  have k3 := bcell hbx 3
  have k4 := bcell hbx 4
  have k5 := bcell hbx 5
  have q0 := bcell hba 0
  have q1 := bcell hba 1
  have z0 := bfroz hba 0
  have z1 := bfroz hba 1
  simp only [List.getElem?_toArray, List.getElem?_cons_succ, List.getElem?_cons_zero] at k0 k1 k2 k3 k4 k5 q0 q1
  have HB := Lib.hid h.bound
  have HWB := Lib.hid hwb
  have HT1 := Lib.hid (hT1.mono (G := F) (fun _ e => e.elim))
  have HI := Lib.hid hI
  have HBX := Lib.hid hbx
  have HBA := Lib.hid hba
  have HZ := Lib.hid hz
  have HGF : Hid (∀ k, F k → F k ∨ w.heap.size + 2 ≤ k) := Lib.hid (fun k hk => .inl hk)
  have HS := Lib.hid (Sit.mk (w := w) (F := F) hI (hT1.mono (G := F) (fun _ e => e.elim)) hbx hba)
  clear h hI hT1 hbx hba hwb hz hr
  have d1 : decide (c < 1) = false := by have := HR.out.1; simp; omega
  have d2 : decide (p < 0) = false := by have := HR.out.2.1; simp; omega
  have d3 : decide ((A.length : Int) < c) = false := by have := HR.out.2; simp; omega
  have wr1 : IntKind.i64.wrap ((A.length : Int) - c) = (A.length : Int) - c := IntWalk.i64_in _ (by have := HR.out.2; have := HR.out.1; omega)
  have d4 : decide ((A.length : Int) - c < p) = false := by have := HR.out.2; simp; omega
  go_enter Try.func46, Try.ntmps46
  go_upto_region 11 with fail
  rw [HWB.out]
  go_quiet (fail)
  have HSq := Lib.hid (Sit.drewN HS.out nq)
  obtain ⟨wq, hwq⟩ : ∃ x, wb.drewN nq = x := ⟨_, rfl⟩
  rw [hwq] at HSq ⊢
  clear hwq HS HI HI1 HT1 HBX HBA k0 k1 k2 k3 k4 k5 q0 q1 z0 z1 s0 s1 d1 d2 d3 d4 wr1 HWB
  obtain ⟨pn, rfl⟩ := Int.eq_ofNat_of_zero_le HR.out.2.1
  obtain ⟨cn, rfl⟩ := Int.eq_ofNat_of_zero_le (show 0 ≤ c by have := HR.out.1; omega)
  have hb : pn + cn ≤ A.length := by have := HR.out.2.2; omega
  have hcn : 1 ≤ cn := by have := HR.out.1; omega
  clear HR
  have k1 := bcell HSq.out.o 1
  have k2 := bcell HSq.out.o 2
  simp only [List.getElem?_toArray, List.getElem?_cons_succ, List.getElem?_cons_zero] at k1 k2
  go_upto_block 1 with fail
  go_wp2_with fail
  clear k1 k2
  go_loopw [5] (fun i W => ∃ j : Nat, i = .int .i64 ((pn + j : Nat) : Int) ∧ j ≤ cn ∧ Hid (∀ t, t < j → (pg A (pn + t)).isSome = true) ∧ Hid (Sit w F sb rb cr Ar db bud A #[.int .i64 1, .int .i64 pn, .int .i64 cn, .int .u64 a, .int .i64 n, .slice Ad d.length cd] W)) (fun i _ => pn + cn - (intOf i).toNat)
  case atStart => exact ⟨0, rfl, Nat.zero_le _, Lib.hid (fun t ht => by omega), HSq⟩
  case round =>
    clear HSq
    obtain ⟨j, rfl, hj, HA, HS⟩ := hrel
    obtain ⟨i, hi⟩ : ∃ i, pn + j = i := ⟨_, rfl⟩
    rw [hi]
    have HIX := Lib.hid hi
    have k0 := bcell HS.out.o 0
    have k1 := bcell HS.out.o 1
    have k2 := bcell HS.out.o 2
    have q0 := bcell HS.out.a 0
    have q1 := bcell HS.out.a 1
    have z0 := bfroz HS.out.a 0
    have z1 := bfroz HS.out.a 1
    simp only [List.getElem?_toArray, List.getElem?_cons_succ, List.getElem?_cons_zero] at k0 k1 k2 q0 q1
    obtain ⟨s0, s1⟩ := HS.out.s.scells
    by_cases hlt : j < cn
    · have hlt2 : i < pn + cn := by omega
      have hil : i < A.length := by omega
      obtain ⟨h1, c0, c1, c2, hf⟩ := HS.out.s.cells hil
      subst h1
      unfold onV at c0
      clear hf c1 c2 hi
      cases hon : (pg A i).isSome with
      | false =>
        rw [hon] at c0
        have hno : ¬ allR A pn cn Option.isSome := fun e => by
          have := e j hlt
          rw [HIX.out] at this
          revert this hon
          cases pg A i <;> simp
        have HNO := Lib.hid hno
        clear hon hno
        go_upto_region 16 with fail
        go_quiet (fail)
        go_wp2
        have hc6 : rangeC A pn cn = 6 := by unfold rangeC; rw [Int.toNat_natCast, Int.toNat_natCast, if_neg (fun e => HNO.out e.2)]
        have ha6 : decommitA A pn cn = A := by unfold decommitA; rw [hc6, if_neg (by omega)]
        rw [hc6, ha6]
        refine bodyPost_ret (v := .agg #[.int .i64 6, .slice none 0 0]) ?_ rfl (sdo_fin (SSpace.drewN ⟨_, _, _, _, HS.out.s⟩ nq) HGF.out (HS.out.t.drewN nq) HB.out (Kd.R_nil _ _ _ _ _) _ _)
        simp [results, Try.results46, go_sem, q0, q1]
      | true =>
        rw [hon] at c0
        have HA2 : Hid (∀ t, t < j + 1 → (pg A (pn + t)).isSome = true) := Lib.hid (fun t ht => by
          by_cases e : t = j
          · subst e; rw [HIX.out]; exact hon
          · exact HA.out t (by omega))
        clear hon
        go_upto_region 16 with fail
        go_quiet (fail)
        have HS2 := Lib.hid (Sit.drewN HS.out nq)
        obtain ⟨wz, hwz⟩ : ∃ x, wr.drewN nq = x := ⟨_, rfl⟩
        rw [hwz] at HS2 ⊢
        clear hwz
        go_wp2_with fail
        go_roundw
        case rel => exact ⟨j + 1, by rw [show pn + (j + 1) = i + 1 by have := HIX.out; omega]; go_num, by omega, HA2, HS2⟩
        case measure => simp [intOf]; omega
    · obtain rfl : cn = j := by omega
      have hlt2 : ¬ i < pn + cn := by omega
      have hall : allR A pn cn Option.isSome := fun t ht => by
        have := HA.out t ht
        revert this
        cases pg A (pn + t) <;> simp
      have HALL := Lib.hid hall
      have HSS : Hid (SSpace wr F sb bud A) := Lib.hid ⟨_, _, _, _, HS.out.s⟩
      clear hi hall HA
      have hcc : rangeC A pn cn = 0 := by unfold rangeC; rw [Int.toNat_natCast, Int.toNat_natCast, if_pos ⟨⟨by omega, by omega, by omega, by omega⟩, HALL.out⟩]
      have haa : decommitA A pn cn = setR A pn cn (fun _ => none) := by unfold decommitA; rw [hcc, if_pos rfl, Int.toNat_natCast, Int.toNat_natCast]
      have HCC := Lib.hid hcc
      have HAA := Lib.hid haa
      clear hcc haa
      go_wp2_with fail
      refine (SsD.drop_is wr pn cn HSS.out hb).mono ?_
      rintro e w2 ⟨rfl, hI2, hT2⟩
      have hnf : ¬ F (w.heap.size + 1) := fun e => by have := HB.out _ e; omega
      have ha2 := hT2.blk hnf HS.out.a
      have q0 := bcell ha2 0
      have q1 := bcell ha2 1
      have z0 := bfroz ha2 0
      have z1 := bfroz ha2 1
      simp only [List.getElem?_toArray, List.getElem?_cons_succ, List.getElem?_cons_zero] at q0 q1
      have HT2 := Lib.hid (HS.out.t.trans hT2 (fun k e => .inl e))
      have HI2 := Lib.hid hI2
      clear hT2 ha2 hnf k0 k1 k2 s0 s1 hI2
      go_wp2
      rw [HCC.out, HAA.out]
      refine bodyPost_ret (v := .agg #[.int .i64 0, .slice none 0 0]) ?_ rfl (sdo_fin (HI2.out) HGF.out (HT2.out) HB.out (Kd.R_nil _ _ _ _ _) _ _)
      simp [results, Try.results46, go_sem, q0, q1]
set_option maxRecDepth 100000 in
set_option maxHeartbeats 8000000 in
theorem do_ok2 {F : Nat → Prop} {sb : Nat} {bud : Int} {A : Pages} (w : World) (p c a n : Int) (Ad : Option Addr) (cd : Nat) (d : List Int) (h : SSpace w F sb bud A) (hr : within A.length p c) :
    Calls Try.prog 46 #[.pointer (some ⟨sb, 0, none⟩), .agg #[.int .i64 2, .int .i64 p, .int .i64 c, .int .u64 a, .int .i64 n, .slice Ad d.length cd]] w (SDo w F sb bud (rangeC A p c) [] (lockA A p c (!true))) := by
  have HR := Lib.hid hr
  obtain ⟨wb, hwb⟩ : ∃ x, (w.alloc (.cells #[.int .i64 2, .int .i64 p, .int .i64 c, .int .u64 a, .int .i64 n, .slice Ad d.length cd] 52)).alloc (.cells #[.int .i64 0, .slice none 0 0] 54) = x := ⟨_, rfl⟩
  have hT1 : Turn w ((w.alloc (.cells #[.int .i64 2, .int .i64 p, .int .i64 c, .int .u64 a, .int .i64 n, .slice Ad d.length cd] 52)).alloc (.cells #[.int .i64 0, .slice none 0 0] 54)) (fun _ => False) := ((Turn.refl w _).alloc _).alloc _
  have hz : wb.heap.size = w.heap.size + 2 := by rw [← hwb]; simp
  have hbx : wb.heap[w.heap.size]? = some (.cells #[.int .i64 2, .int .i64 p, .int .i64 c, .int .u64 a, .int .i64 n, .slice Ad d.length cd] 52 (0, 0)) := by rw [← hwb]; exact alloc_old (alloc_new w _) _
  have hba : wb.heap[w.heap.size + 1]? = some (.cells #[.int .i64 0, .slice none 0 0] 54 (0, 0)) := by
    rw [← hwb]
    have := alloc_new (w.alloc (.cells #[.int .i64 2, .int .i64 p, .int .i64 c, .int .u64 a, .int .i64 n, .slice Ad d.length cd] 52)) (.cells #[.int .i64 0, .slice none 0 0] 54)
    simpa using this
  rw [hwb] at hT1
  have hI1 := h.turned hT1 (fun _ _ e => e)
  have HI1 := Lib.hid hI1
  obtain ⟨rb, Ar, cr, db, hI⟩ := hI1
  obtain ⟨s0, s1⟩ := hI.scells
  have hlen := hI.len
  have k0 := bcell hbx 0
  have k1 := bcell hbx 1
  have k2 := bcell hbx 2
  have k3 := bcell hbx 3
  have k4 := bcell hbx 4
  have k5 := bcell hbx 5
  have q0 := bcell hba 0
  have q1 := bcell hba 1
  have z0 := bfroz hba 0
  have z1 := bfroz hba 1
  simp only [List.getElem?_toArray, List.getElem?_cons_succ, List.getElem?_cons_zero] at k0 k1 k2 k3 k4 k5 q0 q1
  have HB := Lib.hid h.bound
  have HWB := Lib.hid hwb
  have HT1 := Lib.hid (hT1.mono (G := F) (fun _ e => e.elim))
  have HI := Lib.hid hI
  have HBX := Lib.hid hbx
  have HBA := Lib.hid hba
  have HZ := Lib.hid hz
  have HGF : Hid (∀ k, F k → F k ∨ w.heap.size + 2 ≤ k) := Lib.hid (fun k hk => .inl hk)
  have HS := Lib.hid (Sit.mk (w := w) (F := F) hI (hT1.mono (G := F) (fun _ e => e.elim)) hbx hba)
  clear h hI hT1 hbx hba hwb hz hr
  have d1 : decide (c < 1) = false := by have := HR.out.1; simp; omega
  have d2 : decide (p < 0) = false := by have := HR.out.2.1; simp; omega
  have d3 : decide ((A.length : Int) < c) = false := by have := HR.out.2; simp; omega
  have wr1 : IntKind.i64.wrap ((A.length : Int) - c) = (A.length : Int) - c := IntWalk.i64_in _ (by have := HR.out.2; have := HR.out.1; omega)
  have d4 : decide ((A.length : Int) - c < p) = false := by have := HR.out.2; simp; omega
  go_enter Try.func46, Try.ntmps46
  go_upto_region 11 with fail
  rw [HWB.out]
  go_quiet (fail)
  have HSq := Lib.hid (Sit.drewN HS.out nq)
  obtain ⟨wq, hwq⟩ : ∃ x, wb.drewN nq = x := ⟨_, rfl⟩
  rw [hwq] at HSq ⊢
  clear hwq HS HI HI1 HT1 HBX HBA k0 k1 k2 k3 k4 k5 q0 q1 z0 z1 s0 s1 d1 d2 d3 d4 wr1 HWB
  obtain ⟨pn, rfl⟩ := Int.eq_ofNat_of_zero_le HR.out.2.1
  obtain ⟨cn, rfl⟩ := Int.eq_ofNat_of_zero_le (show 0 ≤ c by have := HR.out.1; omega)
  have hb : pn + cn ≤ A.length := by have := HR.out.2.2; omega
  have hcn : 1 ≤ cn := by have := HR.out.1; omega
  clear HR
  have k1 := bcell HSq.out.o 1
  have k2 := bcell HSq.out.o 2
  simp only [List.getElem?_toArray, List.getElem?_cons_succ, List.getElem?_cons_zero] at k1 k2
  go_upto_block 1 with fail
  go_wp2_with fail
  clear k1 k2
  go_loopw [5] (fun i W => ∃ j : Nat, i = .int .i64 ((pn + j : Nat) : Int) ∧ j ≤ cn ∧ Hid (∀ t, t < j → (pg A (pn + t)).isSome = true) ∧ Hid (Sit w F sb rb cr Ar db bud A #[.int .i64 2, .int .i64 pn, .int .i64 cn, .int .u64 a, .int .i64 n, .slice Ad d.length cd] W)) (fun i _ => pn + cn - (intOf i).toNat)
  case atStart => exact ⟨0, rfl, Nat.zero_le _, Lib.hid (fun t ht => by omega), HSq⟩
  case round =>
    clear HSq
    obtain ⟨j, rfl, hj, HA, HS⟩ := hrel
    obtain ⟨i, hi⟩ : ∃ i, pn + j = i := ⟨_, rfl⟩
    rw [hi]
    have HIX := Lib.hid hi
    have k0 := bcell HS.out.o 0
    have k1 := bcell HS.out.o 1
    have k2 := bcell HS.out.o 2
    have q0 := bcell HS.out.a 0
    have q1 := bcell HS.out.a 1
    have z0 := bfroz HS.out.a 0
    have z1 := bfroz HS.out.a 1
    simp only [List.getElem?_toArray, List.getElem?_cons_succ, List.getElem?_cons_zero] at k0 k1 k2 q0 q1
    obtain ⟨s0, s1⟩ := HS.out.s.scells
    by_cases hlt : j < cn
    · have hlt2 : i < pn + cn := by omega
      have hil : i < A.length := by omega
      obtain ⟨h1, c0, c1, c2, hf⟩ := HS.out.s.cells hil
      subst h1
      unfold onV at c0
      clear hf c1 c2 hi
      cases hon : (pg A i).isSome with
      | false =>
        rw [hon] at c0
        have hno : ¬ allR A pn cn Option.isSome := fun e => by
          have := e j hlt
          rw [HIX.out] at this
          revert this hon
          cases pg A i <;> simp
        have HNO := Lib.hid hno
        clear hon hno
        go_upto_region 16 with fail
        go_quiet (fail)
        go_wp2
        have hc6 : rangeC A pn cn = 6 := by unfold rangeC; rw [Int.toNat_natCast, Int.toNat_natCast, if_neg (fun e => HNO.out e.2)]
        have ha6 : lockA A pn cn (!true) = A := by unfold lockA; rw [hc6, if_neg (by omega)]
        rw [hc6, ha6]
        refine bodyPost_ret (v := .agg #[.int .i64 6, .slice none 0 0]) ?_ rfl (sdo_fin (SSpace.drewN ⟨_, _, _, _, HS.out.s⟩ nq) HGF.out (HS.out.t.drewN nq) HB.out (Kd.R_nil _ _ _ _ _) _ _)
        simp [results, Try.results46, go_sem, q0, q1]
      | true =>
        rw [hon] at c0
        have HA2 : Hid (∀ t, t < j + 1 → (pg A (pn + t)).isSome = true) := Lib.hid (fun t ht => by
          by_cases e : t = j
          · subst e; rw [HIX.out]; exact hon
          · exact HA.out t (by omega))
        clear hon
        go_upto_region 16 with fail
        go_quiet (fail)
        have HS2 := Lib.hid (Sit.drewN HS.out nq)
        obtain ⟨wz, hwz⟩ : ∃ x, wr.drewN nq = x := ⟨_, rfl⟩
        rw [hwz] at HS2 ⊢
        clear hwz
        go_wp2_with fail
        go_roundw
        case rel => exact ⟨j + 1, by rw [show pn + (j + 1) = i + 1 by have := HIX.out; omega]; go_num, by omega, HA2, HS2⟩
        case measure => simp [intOf]; omega
    · obtain rfl : cn = j := by omega
      have hlt2 : ¬ i < pn + cn := by omega
      have hall : allR A pn cn Option.isSome := fun t ht => by
        have := HA.out t ht
        revert this
        cases pg A (pn + t) <;> simp
      have HALL := Lib.hid hall
      have HSS : Hid (SSpace wr F sb bud A) := Lib.hid ⟨_, _, _, _, HS.out.s⟩
      clear hi hall HA
      have hcc : rangeC A pn cn = 0 := by unfold rangeC; rw [Int.toNat_natCast, Int.toNat_natCast, if_pos ⟨⟨by omega, by omega, by omega, by omega⟩, HALL.out⟩]
      have haa : lockA A pn cn (!true) = setR A pn cn (fun x => x.map fun y => (y.1, false)) := by unfold lockA; rw [hcc, if_pos rfl, Int.toNat_natCast, Int.toNat_natCast]; rfl
      have HCC := Lib.hid hcc
      have HAA := Lib.hid haa
      clear hcc haa
      have HS0 : Hid (Sit w F sb rb cr Ar db bud (setR A pn 0 (fun x => x.map fun y => (y.1, false))) #[.int .i64 2, .int .i64 pn, .int .i64 cn, .int .u64 a, .int .i64 n, .slice Ad d.length cd] wr) := by rw [setR_zero]; exact HS
      clear HS HSS
      go_upto_block 3 with fail
      go_wp2_with fail
      clear q0 q1 z0 z1 s0 s1 k0 k1 k2
      go_loopw [6] (fun i W => ∃ j : Nat, i = .int .i64 ((pn + j : Nat) : Int) ∧ j ≤ cn ∧ Hid (Sit w F sb rb cr Ar db bud (setR A pn j (fun x => x.map fun y => (y.1, false))) #[.int .i64 2, .int .i64 pn, .int .i64 cn, .int .u64 a, .int .i64 n, .slice Ad d.length cd] W)) (fun i _ => pn + cn - (intOf i).toNat)
      case atStart => exact ⟨0, rfl, Nat.zero_le _, HS0⟩
      case round =>
        clear HS0
        obtain ⟨j, rfl, hj, HS⟩ := hrel
        obtain ⟨i2, hi⟩ : ∃ i, pn + j = i := ⟨_, rfl⟩
        rw [hi]
        have HIX2 := Lib.hid hi
        have k0 := bcell HS.out.o 0
        have k1 := bcell HS.out.o 1
        have k2 := bcell HS.out.o 2
        have q0 := bcell HS.out.a 0
        have q1 := bcell HS.out.a 1
        have z0 := bfroz HS.out.a 0
        have z1 := bfroz HS.out.a 1
        simp only [List.getElem?_toArray, List.getElem?_cons_succ, List.getElem?_cons_zero] at k0 k1 k2 q0 q1
        obtain ⟨s0, s1⟩ := HS.out.s.scells
        by_cases hlt : j < cn
        · have hlt3 : i2 < pn + cn := by omega
          have hil : i2 < (setR A pn j (fun x => x.map fun y => (y.1, false))).length := by rw [setR_len]; omega
          have hnx := setR_succ (g := (fun x => x.map fun y => (y.1, false))) (show pn + j < A.length by omega)
          have hn : pg (setR A pn j (fun x => x.map fun y => (y.1, false))) i2 = pg A i2 := by rw [← hi, pg_setR (by omega), if_neg (by omega)]
          have hs : (pg A i2).isSome = true := by rw [← hi]; exact HALL.out j hlt
          rw [hi, ← hn] at hnx
          rw [← hn] at hs
          obtain ⟨⟨bs, op⟩, hx⟩ := Option.isSome_iff_exists.1 hs
          rw [hx, Option.map_some] at hnx
          have HNX := Lib.hid hnx
          obtain ⟨B, hB⟩ : ∃ B, setR A pn j (fun x => x.map fun y => (y.1, false)) = B := ⟨_, rfl⟩
          rw [hB] at HS HNX hil hx s0
          have hol : B.length ≤ 4096 := HS.out.s.len
          obtain ⟨h1, c0, c1, c2, hf⟩ := HS.out.s.cells hil
          subst h1
          have f1 := hf (i2 * 3 + 1)
          have hrF := (HS.out.s.hr (by omega)).2.1
          have hI5 := SSp.lock1 HS.out.s hx false
          rw [← HNX.out] at hI5
          have hne : rb ≠ w.heap.size ∧ rb ≠ w.heap.size + 1 := ⟨fun e => by have := HB.out rb hrF; omega, fun e => by have := HB.out rb hrF; omega⟩
          have hS5 : Sit w F sb rb cr (some ⟨rb, 0, none⟩) db bud (setR A pn (j + 1) (fun x => x.map fun y => (y.1, false))) #[.int .i64 2, .int .i64 pn, .int .i64 cn, .int .u64 a, .int .i64 n, .slice Ad d.length cd] (wr.setCell ⟨rb, i2 * 3 + 1, none⟩ (.bool false)) := ⟨hI5, HS.out.t.setCell (p := ⟨rb, i2 * 3 + 1, none⟩) (.inl hrF) _, set_other HS.out.o (Ne.symm hne.1) _, set_other HS.out.a (Ne.symm hne.2) _⟩
          have HS5 := Lib.hid hS5
          clear hnx hn hs hi hB hx hf hrF hI5 hS5 hne c0 c2
          go_upto_region 22 with fail
          go_region
          all_goals
            have HS6 := Lib.hid (Sit.drewX HS5.out)
            obtain ⟨wz, hwz⟩ : ∃ x, (wr.setCell ⟨rb, i2 * 3 + 1, none⟩ (.bool false)).drew = x := ⟨_, rfl⟩
            rw [hwz] at HS6 ⊢
            clear hwz
            go_wp2_with fail
            go_roundw
            case rel => exact ⟨j + 1, by rw [show pn + (j + 1) = i2 + 1 by have := HIX2.out; omega]; go_num, by omega, HS6⟩
            case measure => simp [intOf]; omega
        · obtain rfl : cn = j := by omega
          have hlt3 : ¬ i2 < pn + cn := by omega
          clear hi
          go_wp2
          rw [HCC.out, HAA.out]
          refine bodyPost_ret (v := .agg #[.int .i64 0, .slice none 0 0]) ?_ rfl (sdo_fin (⟨_, _, _, _, HS.out.s⟩) HGF.out (HS.out.t) HB.out (Kd.R_nil _ _ _ _ _) _ _)
          simp [results, Try.results46, go_sem, q0, q1]
set_option maxRecDepth 100000 in
set_option maxHeartbeats 8000000 in
theorem do_ok3 {F : Nat → Prop} {sb : Nat} {bud : Int} {A : Pages} (w : World) (p c a n : Int) (Ad : Option Addr) (cd : Nat) (d : List Int) (h : SSpace w F sb bud A) (hr : within A.length p c) :
    Calls Try.prog 46 #[.pointer (some ⟨sb, 0, none⟩), .agg #[.int .i64 3, .int .i64 p, .int .i64 c, .int .u64 a, .int .i64 n, .slice Ad d.length cd]] w (SDo w F sb bud (rangeC A p c) [] (lockA A p c (!false))) := by
  have HR := Lib.hid hr
  obtain ⟨wb, hwb⟩ : ∃ x, (w.alloc (.cells #[.int .i64 3, .int .i64 p, .int .i64 c, .int .u64 a, .int .i64 n, .slice Ad d.length cd] 52)).alloc (.cells #[.int .i64 0, .slice none 0 0] 54) = x := ⟨_, rfl⟩
  have hT1 : Turn w ((w.alloc (.cells #[.int .i64 3, .int .i64 p, .int .i64 c, .int .u64 a, .int .i64 n, .slice Ad d.length cd] 52)).alloc (.cells #[.int .i64 0, .slice none 0 0] 54)) (fun _ => False) := ((Turn.refl w _).alloc _).alloc _
  have hz : wb.heap.size = w.heap.size + 2 := by rw [← hwb]; simp
  have hbx : wb.heap[w.heap.size]? = some (.cells #[.int .i64 3, .int .i64 p, .int .i64 c, .int .u64 a, .int .i64 n, .slice Ad d.length cd] 52 (0, 0)) := by rw [← hwb]; exact alloc_old (alloc_new w _) _
  have hba : wb.heap[w.heap.size + 1]? = some (.cells #[.int .i64 0, .slice none 0 0] 54 (0, 0)) := by
    rw [← hwb]
    have := alloc_new (w.alloc (.cells #[.int .i64 3, .int .i64 p, .int .i64 c, .int .u64 a, .int .i64 n, .slice Ad d.length cd] 52)) (.cells #[.int .i64 0, .slice none 0 0] 54)
    simpa using this
  rw [hwb] at hT1
  have hI1 := h.turned hT1 (fun _ _ e => e)
  have HI1 := Lib.hid hI1
  obtain ⟨rb, Ar, cr, db, hI⟩ := hI1
  obtain ⟨s0, s1⟩ := hI.scells
  have hlen := hI.len
  have k0 := bcell hbx 0
  have k1 := bcell hbx 1
  have k2 := bcell hbx 2
  have k3 := bcell hbx 3
  have k4 := bcell hbx 4
  have k5 := bcell hbx 5
  have q0 := bcell hba 0
  have q1 := bcell hba 1
  have z0 := bfroz hba 0
  have z1 := bfroz hba 1
  simp only [List.getElem?_toArray, List.getElem?_cons_succ, List.getElem?_cons_zero] at k0 k1 k2 k3 k4 k5 q0 q1
  have HB := Lib.hid h.bound
  have HWB := Lib.hid hwb
  have HT1 := Lib.hid (hT1.mono (G := F) (fun _ e => e.elim))
  have HI := Lib.hid hI
  have HBX := Lib.hid hbx
  have HBA := Lib.hid hba
  have HZ := Lib.hid hz
  have HGF : Hid (∀ k, F k → F k ∨ w.heap.size + 2 ≤ k) := Lib.hid (fun k hk => .inl hk)
  have HS := Lib.hid (Sit.mk (w := w) (F := F) hI (hT1.mono (G := F) (fun _ e => e.elim)) hbx hba)
  clear h hI hT1 hbx hba hwb hz hr
  have d1 : decide (c < 1) = false := by have := HR.out.1; simp; omega
  have d2 : decide (p < 0) = false := by have := HR.out.2.1; simp; omega
  have d3 : decide ((A.length : Int) < c) = false := by have := HR.out.2; simp; omega
  have wr1 : IntKind.i64.wrap ((A.length : Int) - c) = (A.length : Int) - c := IntWalk.i64_in _ (by have := HR.out.2; have := HR.out.1; omega)
  have d4 : decide ((A.length : Int) - c < p) = false := by have := HR.out.2; simp; omega
  go_enter Try.func46, Try.ntmps46
  go_upto_region 11 with fail
  rw [HWB.out]
  go_quiet (fail)
  have HSq := Lib.hid (Sit.drewN HS.out nq)
  obtain ⟨wq, hwq⟩ : ∃ x, wb.drewN nq = x := ⟨_, rfl⟩
  rw [hwq] at HSq ⊢
  clear hwq HS HI HI1 HT1 HBX HBA k0 k1 k2 k3 k4 k5 q0 q1 z0 z1 s0 s1 d1 d2 d3 d4 wr1 HWB
  obtain ⟨pn, rfl⟩ := Int.eq_ofNat_of_zero_le HR.out.2.1
  obtain ⟨cn, rfl⟩ := Int.eq_ofNat_of_zero_le (show 0 ≤ c by have := HR.out.1; omega)
  have hb : pn + cn ≤ A.length := by have := HR.out.2.2; omega
  have hcn : 1 ≤ cn := by have := HR.out.1; omega
  clear HR
  have k1 := bcell HSq.out.o 1
  have k2 := bcell HSq.out.o 2
  simp only [List.getElem?_toArray, List.getElem?_cons_succ, List.getElem?_cons_zero] at k1 k2
  go_upto_block 1 with fail
  go_wp2_with fail
  clear k1 k2
  go_loopw [5] (fun i W => ∃ j : Nat, i = .int .i64 ((pn + j : Nat) : Int) ∧ j ≤ cn ∧ Hid (∀ t, t < j → (pg A (pn + t)).isSome = true) ∧ Hid (Sit w F sb rb cr Ar db bud A #[.int .i64 3, .int .i64 pn, .int .i64 cn, .int .u64 a, .int .i64 n, .slice Ad d.length cd] W)) (fun i _ => pn + cn - (intOf i).toNat)
  case atStart => exact ⟨0, rfl, Nat.zero_le _, Lib.hid (fun t ht => by omega), HSq⟩
  case round =>
    clear HSq
    obtain ⟨j, rfl, hj, HA, HS⟩ := hrel
    obtain ⟨i, hi⟩ : ∃ i, pn + j = i := ⟨_, rfl⟩
    rw [hi]
    have HIX := Lib.hid hi
    have k0 := bcell HS.out.o 0
    have k1 := bcell HS.out.o 1
    have k2 := bcell HS.out.o 2
    have q0 := bcell HS.out.a 0
    have q1 := bcell HS.out.a 1
    have z0 := bfroz HS.out.a 0
    have z1 := bfroz HS.out.a 1
    simp only [List.getElem?_toArray, List.getElem?_cons_succ, List.getElem?_cons_zero] at k0 k1 k2 q0 q1
    obtain ⟨s0, s1⟩ := HS.out.s.scells
    by_cases hlt : j < cn
    · have hlt2 : i < pn + cn := by omega
      have hil : i < A.length := by omega
      obtain ⟨h1, c0, c1, c2, hf⟩ := HS.out.s.cells hil
      subst h1
      unfold onV at c0
      clear hf c1 c2 hi
      cases hon : (pg A i).isSome with
      | false =>
        rw [hon] at c0
        have hno : ¬ allR A pn cn Option.isSome := fun e => by
          have := e j hlt
          rw [HIX.out] at this
          revert this hon
          cases pg A i <;> simp
        have HNO := Lib.hid hno
        clear hon hno
        go_upto_region 16 with fail
        go_quiet (fail)
        go_wp2
        have hc6 : rangeC A pn cn = 6 := by unfold rangeC; rw [Int.toNat_natCast, Int.toNat_natCast, if_neg (fun e => HNO.out e.2)]
        have ha6 : lockA A pn cn (!false) = A := by unfold lockA; rw [hc6, if_neg (by omega)]
        rw [hc6, ha6]
        refine bodyPost_ret (v := .agg #[.int .i64 6, .slice none 0 0]) ?_ rfl (sdo_fin (SSpace.drewN ⟨_, _, _, _, HS.out.s⟩ nq) HGF.out (HS.out.t.drewN nq) HB.out (Kd.R_nil _ _ _ _ _) _ _)
        simp [results, Try.results46, go_sem, q0, q1]
      | true =>
        rw [hon] at c0
        have HA2 : Hid (∀ t, t < j + 1 → (pg A (pn + t)).isSome = true) := Lib.hid (fun t ht => by
          by_cases e : t = j
          · subst e; rw [HIX.out]; exact hon
          · exact HA.out t (by omega))
        clear hon
        go_upto_region 16 with fail
        go_quiet (fail)
        have HS2 := Lib.hid (Sit.drewN HS.out nq)
        obtain ⟨wz, hwz⟩ : ∃ x, wr.drewN nq = x := ⟨_, rfl⟩
        rw [hwz] at HS2 ⊢
        clear hwz
        go_wp2_with fail
        go_roundw
        case rel => exact ⟨j + 1, by rw [show pn + (j + 1) = i + 1 by have := HIX.out; omega]; go_num, by omega, HA2, HS2⟩
        case measure => simp [intOf]; omega
    · obtain rfl : cn = j := by omega
      have hlt2 : ¬ i < pn + cn := by omega
      have hall : allR A pn cn Option.isSome := fun t ht => by
        have := HA.out t ht
        revert this
        cases pg A (pn + t) <;> simp
      have HALL := Lib.hid hall
      have HSS : Hid (SSpace wr F sb bud A) := Lib.hid ⟨_, _, _, _, HS.out.s⟩
      clear hi hall HA
      have hcc : rangeC A pn cn = 0 := by unfold rangeC; rw [Int.toNat_natCast, Int.toNat_natCast, if_pos ⟨⟨by omega, by omega, by omega, by omega⟩, HALL.out⟩]
      have haa : lockA A pn cn (!false) = setR A pn cn (fun x => x.map fun y => (y.1, true)) := by unfold lockA; rw [hcc, if_pos rfl, Int.toNat_natCast, Int.toNat_natCast]; rfl
      have HCC := Lib.hid hcc
      have HAA := Lib.hid haa
      clear hcc haa
      have HS0 : Hid (Sit w F sb rb cr Ar db bud (setR A pn 0 (fun x => x.map fun y => (y.1, true))) #[.int .i64 3, .int .i64 pn, .int .i64 cn, .int .u64 a, .int .i64 n, .slice Ad d.length cd] wr) := by rw [setR_zero]; exact HS
      clear HS HSS
      go_upto_block 3 with fail
      go_wp2_with fail
      clear q0 q1 z0 z1 s0 s1 k0 k1 k2
      go_loopw [6] (fun i W => ∃ j : Nat, i = .int .i64 ((pn + j : Nat) : Int) ∧ j ≤ cn ∧ Hid (Sit w F sb rb cr Ar db bud (setR A pn j (fun x => x.map fun y => (y.1, true))) #[.int .i64 3, .int .i64 pn, .int .i64 cn, .int .u64 a, .int .i64 n, .slice Ad d.length cd] W)) (fun i _ => pn + cn - (intOf i).toNat)
      case atStart => exact ⟨0, rfl, Nat.zero_le _, HS0⟩
      case round =>
        clear HS0
        obtain ⟨j, rfl, hj, HS⟩ := hrel
        obtain ⟨i2, hi⟩ : ∃ i, pn + j = i := ⟨_, rfl⟩
        rw [hi]
        have HIX2 := Lib.hid hi
        have k0 := bcell HS.out.o 0
        have k1 := bcell HS.out.o 1
        have k2 := bcell HS.out.o 2
        have q0 := bcell HS.out.a 0
        have q1 := bcell HS.out.a 1
        have z0 := bfroz HS.out.a 0
        have z1 := bfroz HS.out.a 1
        simp only [List.getElem?_toArray, List.getElem?_cons_succ, List.getElem?_cons_zero] at k0 k1 k2 q0 q1
        obtain ⟨s0, s1⟩ := HS.out.s.scells
        by_cases hlt : j < cn
        · have hlt3 : i2 < pn + cn := by omega
          have hil : i2 < (setR A pn j (fun x => x.map fun y => (y.1, true))).length := by rw [setR_len]; omega
          have hnx := setR_succ (g := (fun x => x.map fun y => (y.1, true))) (show pn + j < A.length by omega)
          have hn : pg (setR A pn j (fun x => x.map fun y => (y.1, true))) i2 = pg A i2 := by rw [← hi, pg_setR (by omega), if_neg (by omega)]
          have hs : (pg A i2).isSome = true := by rw [← hi]; exact HALL.out j hlt
          rw [hi, ← hn] at hnx
          rw [← hn] at hs
          obtain ⟨⟨bs, op⟩, hx⟩ := Option.isSome_iff_exists.1 hs
          rw [hx, Option.map_some] at hnx
          have HNX := Lib.hid hnx
          obtain ⟨B, hB⟩ : ∃ B, setR A pn j (fun x => x.map fun y => (y.1, true)) = B := ⟨_, rfl⟩
          rw [hB] at HS HNX hil hx s0
          have hol : B.length ≤ 4096 := HS.out.s.len
          obtain ⟨h1, c0, c1, c2, hf⟩ := HS.out.s.cells hil
          subst h1
          have f1 := hf (i2 * 3 + 1)
          have hrF := (HS.out.s.hr (by omega)).2.1
          have hI5 := SSp.lock1 HS.out.s hx true
          rw [← HNX.out] at hI5
          have hne : rb ≠ w.heap.size ∧ rb ≠ w.heap.size + 1 := ⟨fun e => by have := HB.out rb hrF; omega, fun e => by have := HB.out rb hrF; omega⟩
          have hS5 : Sit w F sb rb cr (some ⟨rb, 0, none⟩) db bud (setR A pn (j + 1) (fun x => x.map fun y => (y.1, true))) #[.int .i64 3, .int .i64 pn, .int .i64 cn, .int .u64 a, .int .i64 n, .slice Ad d.length cd] (wr.setCell ⟨rb, i2 * 3 + 1, none⟩ (.bool true)) := ⟨hI5, HS.out.t.setCell (p := ⟨rb, i2 * 3 + 1, none⟩) (.inl hrF) _, set_other HS.out.o (Ne.symm hne.1) _, set_other HS.out.a (Ne.symm hne.2) _⟩
          have HS5 := Lib.hid hS5
          clear hnx hn hs hi hB hx hf hrF hI5 hS5 hne c0 c2
          go_upto_region 22 with fail
          go_region
          all_goals
            have HS6 := Lib.hid (Sit.drewX HS5.out)
            obtain ⟨wz, hwz⟩ : ∃ x, (wr.setCell ⟨rb, i2 * 3 + 1, none⟩ (.bool true)).drew = x := ⟨_, rfl⟩
            rw [hwz] at HS6 ⊢
            clear hwz
            go_wp2_with fail
            go_roundw
            case rel => exact ⟨j + 1, by rw [show pn + (j + 1) = i2 + 1 by have := HIX2.out; omega]; go_num, by omega, HS6⟩
            case measure => simp [intOf]; omega
        · obtain rfl : cn = j := by omega
          have hlt3 : ¬ i2 < pn + cn := by omega
          clear hi
          go_wp2
          rw [HCC.out, HAA.out]
          refine bodyPost_ret (v := .agg #[.int .i64 0, .slice none 0 0]) ?_ rfl (sdo_fin (⟨_, _, _, _, HS.out.s⟩) HGF.out (HS.out.t) HB.out (Kd.R_nil _ _ _ _ _) _ _)
          simp [results, Try.results46, go_sem, q0, q1]
set_option maxRecDepth 100000 in
set_option maxHeartbeats 8000000 in
theorem do_load {F : Nat → Prop} {sb : Nat} {bud : Int} {A : Pages} (w : World) (p c a n : Int) (Ad : Option Addr) (cd : Nat) (d : List Int) (h : SSpace w F sb bud A) (ha : 0 ≤ a) (hA : a ≤ 18446744073709551615) :
    Calls Try.prog 46 #[.pointer (some ⟨sb, 0, none⟩), .agg #[.int .i64 4, .int .i64 p, .int .i64 c, .int .u64 a, .int .i64 n, .slice Ad d.length cd]] w (SDo w F sb bud (accessC A a n) (if accessC A a n = 0 then loadD A a n else []) A) := by
  obtain ⟨wb, hwb⟩ : ∃ x, (w.alloc (.cells #[.int .i64 4, .int .i64 p, .int .i64 c, .int .u64 a, .int .i64 n, .slice Ad d.length cd] 52)).alloc (.cells #[.int .i64 0, .slice none 0 0] 54) = x := ⟨_, rfl⟩
  have hT1 : Turn w ((w.alloc (.cells #[.int .i64 4, .int .i64 p, .int .i64 c, .int .u64 a, .int .i64 n, .slice Ad d.length cd] 52)).alloc (.cells #[.int .i64 0, .slice none 0 0] 54)) (fun _ => False) := ((Turn.refl w _).alloc _).alloc _
  have hz : wb.heap.size = w.heap.size + 2 := by rw [← hwb]; simp
  have hbx : wb.heap[w.heap.size]? = some (.cells #[.int .i64 4, .int .i64 p, .int .i64 c, .int .u64 a, .int .i64 n, .slice Ad d.length cd] 52 (0, 0)) := by rw [← hwb]; exact alloc_old (alloc_new w _) _
  have hba : wb.heap[w.heap.size + 1]? = some (.cells #[.int .i64 0, .slice none 0 0] 54 (0, 0)) := by
    rw [← hwb]
    have := alloc_new (w.alloc (.cells #[.int .i64 4, .int .i64 p, .int .i64 c, .int .u64 a, .int .i64 n, .slice Ad d.length cd] 52)) (.cells #[.int .i64 0, .slice none 0 0] 54)
    simpa using this
  rw [hwb] at hT1
  have hI1 := h.turned hT1 (fun _ _ e => e)
  have HI1 := Lib.hid hI1
  obtain ⟨rb, Ar, cr, db, hI⟩ := hI1
  obtain ⟨s0, s1⟩ := hI.scells
  have hlen := hI.len
  have k0 := bcell hbx 0
  have k1 := bcell hbx 1
  have k2 := bcell hbx 2
  have k3 := bcell hbx 3
  have k4 := bcell hbx 4
  have k5 := bcell hbx 5
  have q0 := bcell hba 0
  have q1 := bcell hba 1
  have z0 := bfroz hba 0
  have z1 := bfroz hba 1
  simp only [List.getElem?_toArray, List.getElem?_cons_succ, List.getElem?_cons_zero] at k0 k1 k2 k3 k4 k5 q0 q1
  have HB := Lib.hid h.bound
  have HWB := Lib.hid hwb
  have HT1 := Lib.hid (hT1.mono (G := F) (fun _ e => e.elim))
  have HI := Lib.hid hI
  have HBX := Lib.hid hbx
  have HBA := Lib.hid hba
  have HZ := Lib.hid hz
  have HGF : Hid (∀ k, F k → F k ∨ w.heap.size + 2 ≤ k) := Lib.hid (fun k hk => .inl hk)
  clear h hI hT1 hbx hba hwb hz
  have HLD := Lib.hid (SsD.load_is wb a n HI1.out ha hA)
  obtain ⟨data, hdata⟩ : ∃ x, (if accessC A a n = 0 then loadD A a n else []) = x := ⟨_, rfl⟩
  rw [hdata] at HLD ⊢
  obtain ⟨code, hcode⟩ : ∃ x, accessC A a n = x := ⟨_, rfl⟩
  rw [hcode] at HLD ⊢
  clear hcode hdata
  go_enter Try.func46, Try.ntmps46
  go_wp2_with (go_at_call 62; rw [HWB.out]; refine HLD.out.mono ?_; rintro e w2 ⟨v, rfl, hR, hT2⟩; obtain ⟨Av, cv, rfl, _, _⟩ := Kd.R_reads hR; have ha2 := hT2.blk (fun e => e) HBA.out; have q0 := bcell ha2 0; have q1 := bcell ha2 1; have z0 := bfroz ha2 0; have z1 := bfroz ha2 1; simp only [List.getElem?_toArray, List.getElem?_cons_succ, List.getElem?_cons_zero] at q0 q1; have HR := Lib.hid hR; have HT2 := Lib.hid (HT1.out.trans hT2 (fun k e => e.elim)); have HS2 := Lib.hid (HI1.out.turned hT2 (fun _ _ e => e)); clear hR hT2 ha2)
  have HR2 := Lib.hid (Kd.R_mono (ok' := fun k => ¬ F k) (Kd.R_bound HR.out) (fun k hk e => by have := HB.out k e; have := hk.2.1; have := HZ.out; omega))
  rw [HZ.out] at HR2
  refine bodyPost_ret (v := .agg #[.int .i64 code, .slice Av data.length cv]) ?_ rfl (sdo_fin HS2.out HGF.out HT2.out HB.out HR2.out _ _)
  simp [results, Try.results46, go_sem, q0, q1]
set_option maxRecDepth 100000 in
set_option maxHeartbeats 8000000 in
theorem do_store {F : Nat → Prop} {sb : Nat} {bud : Int} {A : Pages} (w : World) (p c a n : Int) (Ad : Option Addr) (cd : Nat) (d : List Int) (h : SSpace w F sb bud A) (ha : 0 ≤ a) (hA : a ≤ 18446744073709551615) (hd : (Kd.int .u8).C w Ad d.length d) (hdF : ∀ ad, Ad = some ad → 0 < d.length → ¬ F ad.block) :
    Calls Try.prog 46 #[.pointer (some ⟨sb, 0, none⟩), .agg #[.int .i64 5, .int .i64 p, .int .i64 c, .int .u64 a, .int .i64 n, .slice Ad d.length cd]] w (SDo w F sb bud (accessC A a d.length) [] (storeA A a d)) := by
  obtain ⟨wb, hwb⟩ : ∃ x, (w.alloc (.cells #[.int .i64 5, .int .i64 p, .int .i64 c, .int .u64 a, .int .i64 n, .slice Ad d.length cd] 52)).alloc (.cells #[.int .i64 0, .slice none 0 0] 54) = x := ⟨_, rfl⟩
  have hT1 : Turn w ((w.alloc (.cells #[.int .i64 5, .int .i64 p, .int .i64 c, .int .u64 a, .int .i64 n, .slice Ad d.length cd] 52)).alloc (.cells #[.int .i64 0, .slice none 0 0] 54)) (fun _ => False) := ((Turn.refl w _).alloc _).alloc _
  have hz : wb.heap.size = w.heap.size + 2 := by rw [← hwb]; simp
  have hbx : wb.heap[w.heap.size]? = some (.cells #[.int .i64 5, .int .i64 p, .int .i64 c, .int .u64 a, .int .i64 n, .slice Ad d.length cd] 52 (0, 0)) := by rw [← hwb]; exact alloc_old (alloc_new w _) _
  have hba : wb.heap[w.heap.size + 1]? = some (.cells #[.int .i64 0, .slice none 0 0] 54 (0, 0)) := by
    rw [← hwb]
    have := alloc_new (w.alloc (.cells #[.int .i64 5, .int .i64 p, .int .i64 c, .int .u64 a, .int .i64 n, .slice Ad d.length cd] 52)) (.cells #[.int .i64 0, .slice none 0 0] 54)
    simpa using this
  rw [hwb] at hT1
  have hI1 := h.turned hT1 (fun _ _ e => e)
  have HI1 := Lib.hid hI1
  obtain ⟨rb, Ar, cr, db, hI⟩ := hI1
  obtain ⟨s0, s1⟩ := hI.scells
  have hlen := hI.len
  have k0 := bcell hbx 0
  have k1 := bcell hbx 1
  have k2 := bcell hbx 2
  have k3 := bcell hbx 3
  have k4 := bcell hbx 4
  have k5 := bcell hbx 5
  have q0 := bcell hba 0
  have q1 := bcell hba 1
  have z0 := bfroz hba 0
  have z1 := bfroz hba 1
  simp only [List.getElem?_toArray, List.getElem?_cons_succ, List.getElem?_cons_zero] at k0 k1 k2 k3 k4 k5 q0 q1
  have HB := Lib.hid h.bound
  have HWB := Lib.hid hwb
  have HT1 := Lib.hid (hT1.mono (G := F) (fun _ e => e.elim))
  have HI := Lib.hid hI
  have HBX := Lib.hid hbx
  have HBA := Lib.hid hba
  have HZ := Lib.hid hz
  have HGF : Hid (∀ k, F k → F k ∨ w.heap.size + 2 ≤ k) := Lib.hid (fun k hk => .inl hk)
  have hd1 := C_move hd (fun ad he hn0 => hT1.block ad.block (C_lt hd ad he hn0) (fun e => e))
  have HD := Lib.hid hd1
  have HDF := Lib.hid hdF
  clear h hI hT1 hbx hba hwb hz hd hdF hd1
  go_enter Try.func46, Try.ntmps46
  go_wp2_with (go_at_call 63; rw [HWB.out]; refine (SsE.store_is wb a Ad cd d HI1.out ha hA HD.out HDF.out).mono ?_; rintro e w2 ⟨rfl, hS2, hT2⟩; have ha2 := hT2.blk (fun e => by have := HB.out _ e; omega) HBA.out; have q0 := bcell ha2 0; have q1 := bcell ha2 1; have z0 := bfroz ha2 0; have z1 := bfroz ha2 1; simp only [List.getElem?_toArray, List.getElem?_cons_succ, List.getElem?_cons_zero] at q0 q1; have HT2 := Lib.hid (HT1.out.trans hT2 (fun k e => .inl e)); have HS2 := Lib.hid hS2; clear hT2 ha2 hS2)
  refine bodyPost_ret (v := .agg #[.int .i64 (accessC A a d.length), .slice none 0 0]) ?_ rfl (sdo_fin (HS2.out) HGF.out (HT2.out) HB.out (Kd.R_nil _ _ _ _ _) _ _)
  simp [results, Try.results46, go_sem, q0, q1]
set_option maxRecDepth 100000 in
set_option maxHeartbeats 8000000 in
theorem do_other {F : Nat → Prop} {sb : Nat} {bud : Int} {A : Pages} (w : World) (k p c a n : Int) (Ad : Option Addr) (cd : Nat) (d : List Int) (h : SSpace w F sb bud A) (hk : k < 0 ∨ 5 < k) :
    Calls Try.prog 46 #[.pointer (some ⟨sb, 0, none⟩), .agg #[.int .i64 k, .int .i64 p, .int .i64 c, .int .u64 a, .int .i64 n, .slice Ad d.length cd]] w (SDo w F sb bud 6 [] A) := by
  obtain ⟨wb, hwb⟩ : ∃ x, (w.alloc (.cells #[.int .i64 k, .int .i64 p, .int .i64 c, .int .u64 a, .int .i64 n, .slice Ad d.length cd] 52)).alloc (.cells #[.int .i64 0, .slice none 0 0] 54) = x := ⟨_, rfl⟩
  have hT1 : Turn w ((w.alloc (.cells #[.int .i64 k, .int .i64 p, .int .i64 c, .int .u64 a, .int .i64 n, .slice Ad d.length cd] 52)).alloc (.cells #[.int .i64 0, .slice none 0 0] 54)) (fun _ => False) := ((Turn.refl w _).alloc _).alloc _
  have hz : wb.heap.size = w.heap.size + 2 := by rw [← hwb]; simp
  have hbx : wb.heap[w.heap.size]? = some (.cells #[.int .i64 k, .int .i64 p, .int .i64 c, .int .u64 a, .int .i64 n, .slice Ad d.length cd] 52 (0, 0)) := by rw [← hwb]; exact alloc_old (alloc_new w _) _
  have hba : wb.heap[w.heap.size + 1]? = some (.cells #[.int .i64 0, .slice none 0 0] 54 (0, 0)) := by
    rw [← hwb]
    have := alloc_new (w.alloc (.cells #[.int .i64 k, .int .i64 p, .int .i64 c, .int .u64 a, .int .i64 n, .slice Ad d.length cd] 52)) (.cells #[.int .i64 0, .slice none 0 0] 54)
    simpa using this
  rw [hwb] at hT1
  have hI1 := h.turned hT1 (fun _ _ e => e)
  have HI1 := Lib.hid hI1
  obtain ⟨rb, Ar, cr, db, hI⟩ := hI1
  obtain ⟨s0, s1⟩ := hI.scells
  have hlen := hI.len
  have k0 := bcell hbx 0
  have k1 := bcell hbx 1
  have k2 := bcell hbx 2
  have k3 := bcell hbx 3
  have k4 := bcell hbx 4
  have k5 := bcell hbx 5
  have q0 := bcell hba 0
  have q1 := bcell hba 1
  have z0 := bfroz hba 0
  have z1 := bfroz hba 1
  simp only [List.getElem?_toArray, List.getElem?_cons_succ, List.getElem?_cons_zero] at k0 k1 k2 k3 k4 k5 q0 q1
  have HB := Lib.hid h.bound
  have HWB := Lib.hid hwb
  have HT1 := Lib.hid (hT1.mono (G := F) (fun _ e => e.elim))
  have HI := Lib.hid hI
  have HBX := Lib.hid hbx
  have HBA := Lib.hid hba
  have HZ := Lib.hid hz
  have HGF : Hid (∀ k, F k → F k ∨ w.heap.size + 2 ≤ k) := Lib.hid (fun k hk => .inl hk)
  have HWW := Lib.hid h
  clear h hI hT1 hbx hba hwb hz
  have b0 : (k == 0) = false := by simp; omega
  have b1 : (k == 1) = false := by simp; omega
  have b2 : (k == 2) = false := by simp; omega
  have b3 : (k == 3) = false := by simp; omega
  have b4 : (k == 4) = false := by simp; omega
  have b5 : (k == 5) = false := by simp; omega
  clear hk
  go_enter Try.func46, Try.ntmps46
  go_wp2
  exact bodyPost_ret (v := .agg #[.int .i64 6, .slice none 0 0]) (by simp [results, Try.results46, go_sem]) rfl (sno_fin HWW.out _ _)
theorem do_is {F : Nat → Prop} {sb : Nat} {bud : Int} {A : Pages} (w : World) (k p c a n : Int) (Ad : Option Addr) (cd : Nat) (d : List Int) (h : SSpace w F sb bud A) (ha : 0 ≤ a) (hA : a ≤ 18446744073709551615)
    (hd : (Kd.int .u8).C w Ad d.length d) (hdF : ∀ ad, Ad = some ad → 0 < d.length → ¬ F ad.block) :
    Calls Try.prog 46 #[.pointer (some ⟨sb, 0, none⟩), .agg #[.int .i64 k, .int .i64 p, .int .i64 c, .int .u64 a, .int .i64 n, .slice Ad d.length cd]] w (SDo w F sb bud (doC bud A k p c a n d) (doD A k a n) (doA bud A k p c a d)) := by
  have bad : ¬ within A.length p c → commitC bud A p c = 6 ∧ commitA bud A p c = A ∧ rangeC A p c = 6 ∧ decommitA A p c = A ∧ ∀ o, lockA A p c o = A := fun hr => by
    have h1 : commitC bud A p c = 6 := by unfold commitC; rw [if_neg (fun e => hr e.1)]
    have h2 : rangeC A p c = 6 := by unfold rangeC; rw [if_neg (fun e => hr e.1)]
    refine ⟨h1, ?_, h2, ?_, fun o => ?_⟩
    · unfold commitA; rw [h1, if_neg (by omega)]
    · unfold decommitA; rw [h2, if_neg (by omega)]
    · unfold lockA; rw [h2, if_neg (by omega)]
  by_cases hk : k < 0 ∨ 5 < k
  · have e1 : doC bud A k p c a n d = 6 := by unfold doC; rw [if_neg (by omega), if_neg (by omega), if_neg (by omega), if_neg (by omega), if_neg (by omega), if_neg (by omega)]
    have e2 : doA bud A k p c a d = A := by unfold doA; rw [if_neg (by omega), if_neg (by omega), if_neg (by omega), if_neg (by omega), if_neg (by omega)]
    have e3 : doD A k a n = [] := by unfold doD; rw [if_neg (by omega)]
    rw [e1, e2, e3]
    exact do_other w k p c a n Ad cd d h hk
  have hk6 : k = 0 ∨ k = 1 ∨ k = 2 ∨ k = 3 ∨ k = 4 ∨ k = 5 := by omega
  by_cases hr : within A.length p c
  · rcases hk6 with rfl | rfl | rfl | rfl | rfl | rfl
    · exact do_ok0 w p c a n Ad cd d h hr
    · exact do_ok1 w p c a n Ad cd d h hr
    · exact do_ok2 w p c a n Ad cd d h hr
    · exact do_ok3 w p c a n Ad cd d h hr
    · exact do_load w p c a n Ad cd d h ha hA
    · exact do_store w p c a n Ad cd d h ha hA hd hdF
  · obtain ⟨b1, b2, b3, b4, b5⟩ := bad hr
    rcases hk6 with rfl | rfl | rfl | rfl | rfl | rfl
    · have := do_range w 0 p c a n Ad cd d h (by omega) hr
      show Calls _ _ _ _ (SDo w F sb bud (commitC bud A p c) [] (commitA bud A p c))
      rw [b1, b2]; exact this
    · have := do_range w 1 p c a n Ad cd d h (by omega) hr
      show Calls _ _ _ _ (SDo w F sb bud (rangeC A p c) [] (decommitA A p c))
      rw [b3, b4]; exact this
    · have := do_range w 2 p c a n Ad cd d h (by omega) hr
      show Calls _ _ _ _ (SDo w F sb bud (rangeC A p c) [] (lockA A p c (!true)))
      rw [b3, b5]; exact this
    · have := do_range w 3 p c a n Ad cd d h (by omega) hr
      show Calls _ _ _ _ (SDo w F sb bud (rangeC A p c) [] (lockA A p c (!false)))
      rw [b3, b5]; exact this
    · exact do_load w p c a n Ad cd d h ha hA
    · exact do_store w p c a n Ad cd d h ha hA hd hdF
end Go.Proofs.Ytklobepkihdbkaa.SsO
