/- The reference's address space: drop, load, store, the open pages. -/
import Derived.Test.YtklobepkihdbkaaSsM
import Derived.Deep.RegionLaw
namespace Go.Proofs.Ytklobepkihdbkaa.SsD
open Go.RowKit Go.Proofs.YtklobepkihdbkaaW.PrintWords Mem Sp SpI SpP SpQ SsR SsM
set_option linter.unusedVariables false
set_option linter.unusedSimpArgs false
theorem SSp.widen {w : World} {F G : Nat → Prop} {sb rb cr : Nat} {Ar : Option Addr} {db : Nat → Nat} {bud : Int} {A : Pages} (h : SSp w F sb rb Ar cr db bud A) (hg : ∀ k, F k → G k) (hb : ∀ k, G k → k < w.heap.size) : SSp w G sb rb Ar cr db bud A :=
  ⟨h.hs, fun hp => let ⟨a, b, c⟩ := h.hr hp; ⟨a, hg _ b, c⟩, fun k bs op e => let ⟨a, b, c⟩ := h.hd k bs op e; ⟨a, hg _ b, c⟩, h.inj, hg _ h.fs, hb, h.len, h.cap⟩
theorem SSp.off1 {w : World} {F : Nat → Prop} {sb rb cr : Nat} {Ar : Option Addr} {db : Nat → Nat} {bud : Int} {A : Pages} (h : SSp w F sb rb Ar cr db bud A) {k : Nat} (hk : k < A.length) :
    SSp (((w.setCell ⟨rb, k * 3, none⟩ (.bool false)).setCell ⟨rb, k * 3 + 1, none⟩ (.bool false)).setCell ⟨rb, k * 3 + 2, none⟩ (.slice none 0 0)) F sb rb Ar cr (fun i => if i = k then 0 else db i) bud (A.set k none) := by
  have hp := SSp.page h hk none 0 (row3_set (w1 := w) (.bool false) (.bool false) (.slice none 0 0) (fun o ho => ho))
    (fun j hj hn => by rw [Below.heap_setCell _ _ _ _ hn, Below.heap_setCell _ _ _ _ hn, Below.heap_setCell _ _ _ _ hn])
    (by simp only [set_size]; exact Nat.le_refl _) (fun bs op e => by cases e)
  exact SSp.widen hp (fun k hk => hk.elim id (fun e => by cases e.1)) (fun k hk => by simp only [set_size]; exact h.bound k hk)
set_option maxRecDepth 100000 in
set_option maxHeartbeats 2000000 in
theorem drop_is {F : Nat → Prop} {sb : Nat} {bud : Int} {A : Pages} (w : World) (f c : Nat) (h : SSpace w F sb bud A) (hfc : f + c ≤ A.length) :
    Calls Try.prog 65 #[.pointer (some ⟨sb, 0, none⟩), .int .i64 f, .int .i64 c] w fun e w' => e = .returned (.tuple #[]) ∧ SSpace w' F sb bud (setR A f c (fun _ => none)) ∧ Turn w w' F := by
  obtain ⟨rb, Ar, cr, db, h⟩ := h
  have hlen := h.len
  have HI0 : Hid (SSp w F sb rb Ar cr db bud (setR A f 0 (fun _ => none))) := by rw [setR_zero]; exact Lib.hid h
  clear h
  go_enter Try.func65, Try.ntmps65
  go_wp2_with fail
  go_loopw [6] (fun i W => ∃ j : Nat, i = .int .i64 ((f + j : Nat) : Int) ∧ j ≤ c ∧ ∃ db, Hid (SSp W F sb rb Ar cr db bud (setR A f j (fun _ => none))) ∧ Hid (Turn w W F)) (fun i _ => f + c - (intOf i).toNat)
  case atStart => exact ⟨0, rfl, Nat.zero_le _, db, HI0, Lib.hid (Turn.refl _ _)⟩
  case round =>
    clear HI0
    obtain ⟨j, rfl, hj, db, HI, HT⟩ := hrel
    obtain ⟨i, hi⟩ : ∃ i, f + j = i := ⟨_, rfl⟩
    rw [hi]
    by_cases hlt : j < c
    · have hlt2 : i < f + c := by omega
      have hnx := setR_succ (g := fun _ => none) (show f + j < A.length by omega)
      rw [hi] at hnx
      have hil : i < (setR A f j (fun _ => none)).length := by rw [setR_len]; omega
      have HNX := Lib.hid hnx
      obtain ⟨B, hB⟩ : ∃ B, setR A f j (fun _ => none) = B := ⟨_, rfl⟩
      rw [hB] at HI HNX hil
      have hol : B.length ≤ 4096 := HI.out.len
      obtain ⟨h1, c0, c1, c2, hf⟩ := HI.out.cells hil
      obtain ⟨k0, k1⟩ := HI.out.scells
      subst h1
      have HIX := Lib.hid hi
      have f0 := hf (i * 3)
      have f1 := hf (i * 3 + 1)
      have f2 := hf (i * 3 + 2)
      have hrF := (HI.out.hr (by omega)).2.1
      have HI5 := Lib.hid (SSp.off1 HI.out hil)
      rw [← HNX.out] at HI5
      have HT5 := Lib.hid (((HT.out.setCell (p := ⟨rb, i * 3, none⟩) (.inl hrF) (.bool false)).setCell (p := ⟨rb, i * 3 + 1, none⟩) (.inl hrF) (.bool false)).setCell (p := ⟨rb, i * 3 + 2, none⟩) (.inl hrF) (.slice none 0 0))
      clear hnx hi hB hf hrF
      go_wp2_with fail
      go_roundw
      case rel => exact ⟨j + 1, by rw [show f + (j + 1) = i + 1 by have := HIX.out; omega]; go_num, by omega, _, HI5, HT5⟩
      case measure => simp [intOf]; omega
    · obtain rfl : c = j := by omega
      have hlt2 : ¬ i < f + c := by omega
      clear hi
      go_wp2
      go_end0
      exact ⟨rfl, ⟨_, _, _, _, HI.out⟩, HT.out⟩
/-! ### load -/
def ldp (A : Pages) (a j : Nat) : List Int := (List.range j).map fun k => getB A (a + k)
theorem ldp_succ (A : Pages) (a j : Nat) : ldp A a (j + 1) = ldp A a j ++ [getB A (a + j)] := by simp [ldp, List.range_succ]
theorem ldp_len (A : Pages) (a j : Nat) : (ldp A a j).length = j := by simp [ldp]
theorem ldp_is (A : Pages) (a n : Nat) : loadD A a n = ldp A a n := by simp [loadD, ldp]
def SlPost (w : World) (code : Int) (data : List Int) (e : Ending) (w' : World) : Prop :=
  ∃ v, e = .returned (.agg #[.int .i64 code, v]) ∧ (Kd.int .u8).R 5 w' w.heap.size (fun _ => True) v data ∧ Turn w w' (fun _ => False)
theorem reach_some {B : Pages} {q : Nat} (h : reach B q = true) : ∃ bs, pg B (q / 1024) = some (bs, true) := by
  unfold reach at h
  cases hh : pg B (q / 1024) with
  | none => rw [hh] at h; cases h
  | some y => obtain ⟨y1, y2⟩ := y; rw [hh] at h; exact ⟨y1, by rw [show y2 = true from h]⟩
/-- The box of the answer and its row while bytes are read. -/
def LdI (wb : World) (code : Int) (xs : List Int) (vd : Value) (W : World) : Prop :=
  W.heap[wb.heap.size]? = some (.cells #[.int .i64 code, vd] 54 (0, 0)) ∧ (Kd.int .u8).R 5 W wb.heap.size (fun k => k ≠ wb.heap.size) vd xs ∧ Turn wb W (fun _ => False)
theorem LdI.drewX {wb W : World} {code : Int} {xs : List Int} {vd : Value} (h : LdI wb code xs vd W) : LdI wb code xs vd W.drew := ⟨h.1, Kd.R_drew h.2.1, h.2.2.drew⟩
theorem ldi_new (wb : World) (code : Int) : LdI wb code [] (.slice none 0 0) (wb.alloc (.cells #[.int .i64 code, .slice none 0 0] 54)) :=
  ⟨alloc_new _ _, Kd.R_nil _ _ _ _ _, (Turn.refl _ _).alloc _⟩
theorem ldi_app {wb W W1 : World} {code : Int} {xs ys : List Int} {vd v1 : Value} (h : LdI wb code xs vd W) (hR : (Kd.int .u8).R 5 W1 wb.heap.size (fun k => k ≠ wb.heap.size) v1 ys) (hg : W.grownBy W1 vd.ownBlock) :
    W1.heap[wb.heap.size]? = some (.cells #[.int .i64 code, vd] 54 (0, 0)) ∧ LdI wb code ys v1 (W1.setCell ⟨wb.heap.size, 1, none⟩ v1) := by
  obtain ⟨h1, h2, h3⟩ := h
  have hb : W1.heap[wb.heap.size]? = some (.cells #[.int .i64 code, vd] 54 (0, 0)) := (hg.block _ (lt_of h1) (fun e => (h2.1 _ e.symm) rfl)).trans h1
  have hob : ∀ b, vd.ownBlock = some b → False ∨ wb.heap.size ≤ b := fun b e => .inr ((Kd.R_bound h2).1 b e).2.1
  exact ⟨hb, bset hb 1 _, Kd.R_far hR (p := ⟨wb.heap.size, 1, none⟩) (fun k hk => hk) _, (h3.grown hg hob).setCell (p := ⟨wb.heap.size, 1, none⟩) (.inr (Nat.le_refl _)) _⟩
theorem load_fin {w wb W : World} {code : Int} {xs : List Int} {vd : Value} (hT : Turn w wb (fun _ => False)) (hz : wb.heap.size = w.heap.size + 1) (h : LdI wb code xs vd W) {c0 v0 : Value} :
    SlPost w code xs (.returned (.agg #[.int .i64 code, vd])) ((W.setCell ⟨w.heap.size, 0, none⟩ c0).setCell ⟨w.heap.size, 1, none⟩ v0) := by
  obtain ⟨h1, h2, h3⟩ := h
  refine ⟨_, rfl, ?_, ((hT.trans h3 (fun k e => e.elim)).setCell (p := ⟨w.heap.size, 0, none⟩) (.inr (Nat.le_refl _)) _).setCell (p := ⟨w.heap.size, 1, none⟩) (.inr (Nat.le_refl _)) _⟩
  have hn : ∀ k, wb.heap.size ≤ k → k ≠ w.heap.size := fun k hk => by omega
  have h4 := Kd.R_mono (ok' := fun k => wb.heap.size ≤ k) (Kd.R_bound h2) (fun k hk => hk.2.1)
  exact Kd.R_mono (Kd.R_lower (Kd.R_far (Kd.R_far h4 (p := ⟨w.heap.size, 0, none⟩) hn _) (p := ⟨w.heap.size, 1, none⟩) hn _) (by omega)) (fun _ _ => trivial)
set_option maxRecDepth 100000 in
set_option maxHeartbeats 4000000 in
theorem load_is {F : Nat → Prop} {sb : Nat} {bud : Int} {A : Pages} (w : World) (a n : Int) (h : SSpace w F sb bud A) (ha : 0 ≤ a) (hA : a ≤ 18446744073709551615) :
    Calls Try.prog 62 #[.pointer (some ⟨sb, 0, none⟩), .int .u64 a, .int .i64 n] w (SlPost w (accessC A a n) (if accessC A a n = 0 then loadD A a n else [])) := by
  have HW := Lib.hid h
  have HA := Lib.hid hA
  clear h hA
  obtain ⟨wb, hwb⟩ : ∃ x, w.alloc (.cells #[.int .i64 0, .slice none 0 0] 54) = x := ⟨_, rfl⟩
  have HWB := Lib.hid hwb
  have hTb : Turn w (w.alloc (.cells #[.int .i64 0, .slice none 0 0] 54)) (fun _ => False) := (Turn.refl w _).alloc _
  rw [hwb] at hTb
  have HTB := Lib.hid hTb
  have HIB := Lib.hid (HW.out.turned hTb (fun _ _ e => e))
  have hzb : wb.heap.size = w.heap.size + 1 := by rw [← hwb]; simp
  have HB0 := Lib.hid (show wb.heap[w.heap.size]? = some (.cells #[.int .i64 0, .slice none 0 0] 54 (0, 0)) by rw [← hwb]; exact alloc_new w _)
  have HZB := Lib.hid hzb
  clear hwb hTb hzb
  by_cases c1 : accessC A a n = 0
  · obtain ⟨hn, hadd, hre⟩ : n ≤ 4096 ∧ (1 ≤ n → a + n ≤ 4611686018427387904) ∧ ∀ i : Nat, (i : Int) < n → reach A (a.toNat + i) = true := by
      obtain ⟨nn, rfl⟩ := Int.eq_ofNat_of_zero_le (show 0 ≤ n by unfold accessC at c1; split at c1 <;> omega)
      obtain ⟨an, rfl⟩ := Int.eq_ofNat_of_zero_le ha
      obtain ⟨h1, h2, h3⟩ := accessC_ok c1
      exact ⟨by omega, fun h => h2 (by omega), fun i hi => by rw [Int.toNat_natCast]; exact h3 i (by omega)⟩
    obtain ⟨nn, rfl⟩ := Int.eq_ofNat_of_zero_le (show 0 ≤ n by unfold accessC at c1; split at c1 <;> omega)
    obtain ⟨an, rfl⟩ := Int.eq_ofNat_of_zero_le ha
    rw [if_pos c1, c1]
    rw [Int.toNat_natCast] at hre
    have hn2 : nn ≤ 4096 := by omega
    have HC := Lib.hid c1
    have HRE := Lib.hid hre
    have HAD := Lib.hid hadd
    clear c1 hn hadd hre
    go_enter Try.func62, Try.ntmps62
    go_wp2_with (go_at_call 80; rw [HWB.out]; refine (access_is wb an nn HIB.out ha HA.out).mono ?_; rintro e w1 ⟨rfl, rfl⟩; rw [HC.out])
    have HL0 := Lib.hid (ldi_new wb 0)
    obtain ⟨w2, hw2⟩ : ∃ x, wb.alloc (.cells #[.int .i64 0, .slice none 0 0] 54) = x := ⟨_, rfl⟩
    rw [hw2] at HL0 ⊢
    clear hw2
    go_loopw [8] (fun i W => ∃ j : Nat, i = .int .i64 j ∧ j ≤ nn ∧ ∃ vd, Hid (LdI wb 0 (ldp A an j) vd W)) (fun i _ => nn - (intOf i).toNat)
    case atStart => exact ⟨0, rfl, Nat.zero_le _, _, HL0⟩
    case round =>
      clear HL0
      obtain ⟨j, rfl, hj, vd, HL⟩ := hrel
      have k0 := bcell HL.out.1 0
      have k1 := bcell HL.out.1 1
      simp only [List.getElem?_toArray, List.getElem?_cons_succ, List.getElem?_cons_zero] at k0 k1
      by_cases hlt : j < nn
      · obtain ⟨q, hq⟩ : ∃ q, an + j = q := ⟨_, rfl⟩
        have hqi : (an : Int) + (j : Int) = (q : Int) := by omega
        have hqu : IntKind.u64.wrap (q : Int) = (q : Int) := by have := HAD.out (by omega); rw [IntKind.wrap_u64]; omega
        have hju : IntKind.u64.wrap (j : Int) = (j : Int) := by rw [IntKind.wrap_u64]; omega
        have had2 : (q : Int) ≤ 4611686018427387904 := by have := HAD.out (by omega); omega
        obtain ⟨bs, hx⟩ := reach_some (HRE.out j (by omega))
        rw [hq] at hx
        have hns := ldp_succ A an j
        rw [hq] at hns
        have hll := ldp_len A an j
        have HNS := Lib.hid hns
        have HX := Lib.hid hx
        have HS := Lib.hid (HIB.out.turned HL.out.2.2 (fun _ _ e => e))
        have hwz : wb.heap.size < wr.heap.size := lt_of HL.out.1
        have HBl := Lib.hid (HL.out.2.2.below (Nat.le_refl _) (fun k e => e.elim))
        clear hns hx hq
        go_upto_region 5 with fail
        go_region_law (first | (go_simp; go_at_call 81; (try rw [hqi]); (try rw [hqu]); refine (get_is _ q (SSpace.drewX HS.out) had2 HX.out).mono ?_; rintro e w5 ⟨rfl, rfl⟩) | (refine Kd.R_append_step (Kd.int .u8) (w0 := wb) wb.heap.size (by rfl) _ _ 39 5 (.int .u8 0) 1 (by rfl) Try.underlying39 info5 rfl (by decide) (by omega) vd (ldp A an j) (getB A q) [.int .u8 (getB A q)] (fun k => k ≠ wb.heap.size) (fun _ => False) (by rfl) (by rfl) ?aP (fun _ h => h.elim) ?aF (Kd.R_drew HL.out.2.1) ?aB ?aS ?aL ?_; (case aP => exact rfl); (case aF => intro k hk; (try simp at hk); omega); (case aB => exact Below.trans HBl.out ((below_drew1 (Below.refl _ _)))); (case aS => simp; omega); (case aL => rw [hll]; omega); intro v1 w5 hR5 hB5 hg5 hat5; rw [← HNS.out] at hR5; obtain ⟨A1, c1, rfl, hc1, _⟩ := Kd.R_reads hR5; have hLN := ldi_app (LdI.drewX HL.out) hR5 hg5; have HLN := Lib.hid hLN; have k2 := bcell hLN.1 1; have k3 := bfroz hLN.1 1; simp only [List.getElem?_toArray, List.getElem?_cons_succ, List.getElem?_cons_zero] at k2; clear hR5 hB5 hg5 hat5 hLN hc1))
        all_goals
          clear k0 k1 k2 k3 hqi hqu hju
          obtain ⟨w6, hw6⟩ : ∃ x, (w5.setCell ⟨wb.heap.size, 1, none⟩ (.slice A1 (ldp A an (j + 1)).length c1)) = x := ⟨_, rfl⟩
          have HL6 := Lib.hid HLN.out.2
          rw [hw6] at HL6 ⊢
          clear hw6 HLN
          go_wp2_with fail
          go_roundw
          case rel => exact ⟨j + 1, by go_num, by omega, _, HL6⟩
          case measure => simp [intOf]; omega
      · obtain rfl : nn = j := by omega
        have hR := HL.out.2.1
        obtain ⟨A1, c1, rfl, _, _⟩ := Kd.R_reads hR
        rw [ldp_len] at HL k1
        have hr0 := HL.out.2.2.blk (fun e => e) HB0.out
        have q0 := bcell hr0 0
        have q1 := bcell hr0 1
        have z0 := bfroz hr0 0
        have z1 := bfroz hr0 1
        simp only [List.getElem?_toArray, List.getElem?_cons_succ, List.getElem?_cons_zero] at q0 q1
        have hfin := fun c0 v0 => load_fin (c0 := c0) (v0 := v0) HTB.out HZB.out HL.out
        rw [← ldp_is] at hfin
        have HFIN := Lib.hid hfin
        clear hr0 hR hfin
        go_wp2
        refine bodyPost_ret (v := .agg #[.int .i64 0, .slice A1 nn c1]) ?_ rfl (HFIN.out _ _)
        simp [results, Try.results62, go_sem, q0, q1]
  · rw [if_neg c1]
    obtain ⟨code, hcode⟩ : ∃ c, accessC A a n = c := ⟨_, rfl⟩
    rw [hcode] at c1 ⊢
    have HC := Lib.hid hcode
    have hb : (code == 0) = false := by simpa using c1
    have HL0 := Lib.hid (ldi_new wb code)
    clear hcode c1
    go_enter Try.func62, Try.ntmps62
    go_wp2_with (go_at_call 80; rw [HWB.out]; refine (access_is wb a n HIB.out ha HA.out).mono ?_; rintro e w1 ⟨rfl, rfl⟩; rw [HC.out])
    obtain ⟨w2, hw2⟩ : ∃ x, wb.alloc (.cells #[.int .i64 code, .slice none 0 0] 54) = x := ⟨_, rfl⟩
    rw [hw2] at HL0 ⊢
    clear hw2
    have k0 := bcell HL0.out.1 0
    have k1 := bcell HL0.out.1 1
    simp only [List.getElem?_toArray, List.getElem?_cons_succ, List.getElem?_cons_zero] at k0 k1
    have hr0 := HL0.out.2.2.blk (fun e => e) HB0.out
    have q0 := bcell hr0 0
    have q1 := bcell hr0 1
    have z0 := bfroz hr0 0
    have z1 := bfroz hr0 1
    simp only [List.getElem?_toArray, List.getElem?_cons_succ, List.getElem?_cons_zero] at q0 q1
    have HFIN := Lib.hid (fun c0 v0 => load_fin (c0 := c0) (v0 := v0) HTB.out HZB.out HL0.out)
    clear hr0
    go_loopw [8] (fun i W => i = .int .i64 0 ∧ W = w2) (fun i _ => 0)
    case atStart => exact ⟨rfl, rfl⟩
    case round =>
      obtain ⟨rfl, rfl⟩ := hrel
      by_cases hn : 0 < n
      · go_wp2
        refine bodyPost_ret (v := .agg #[.int .i64 code, .slice none 0 0]) ?_ rfl (HFIN.out _ _)
        simp [results, Try.results62, go_sem, q0, q1]
      · go_wp2
        refine bodyPost_ret (v := .agg #[.int .i64 code, .slice none 0 0]) ?_ rfl (HFIN.out _ _)
        simp [results, Try.results62, go_sem, q0, q1]
end Go.Proofs.Ytklobepkihdbkaa.SsD
