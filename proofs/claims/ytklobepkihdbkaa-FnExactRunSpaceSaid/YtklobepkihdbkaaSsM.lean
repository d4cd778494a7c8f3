/- The reference's address space: pages committed and dropped. -/
import Derived.Test.YtklobepkihdbkaaSsR
import Derived.RegionTactic
import Derived.ChangeAlike
import Derived.BigRegion
import Derived.IntWalk
namespace Go.Proofs.Ytklobepkihdbkaa.SsM
open Go.RowKit Go.Proofs.YtklobepkihdbkaaW.PrintWords Mem Sp SpI SpP SpQ SsR
set_option linter.unusedVariables false
set_option linter.unusedSimpArgs false
theorem SSpace.drewX {w : World} {F : Nat → Prop} {sb : Nat} {bud : Int} {A : Pages} (h : SSpace w F sb bud A) : SSpace w.drew F sb bud A := h.turned (G := fun _ => False) (Turn.refl w _).drew (fun _ _ e => e)
theorem ckeep {w w1 : World} {p : Addr} {v : Value} (h : w.cell? p = some v) (ht : Turn w w1 (fun _ => False)) : w1.cell? p = some v := by
  unfold World.cell? at h ⊢
  cases hb : w.heap[p.block]? with
  | none => rw [hb] at h; cases h
  | some o => rw [ht.blk (fun e => e) hb]; rw [hb] at h; exact h
theorem info5 : (Try.prog.info? 5).map (fun i => (i.zero, i.size, i.bytes)) = some (some (.int .u8 0), 1, 1) := by kernel_rfl
theorem made_one (z : Value) (n : Nat) : madeCells #[z] n = (List.replicate n z).toArray := by
  apply Array.ext
  · simp [madeCells]
  · intro i h1 h2
    simp [madeCells, Nat.mod_one]
theorem zeros_row : rowB zeros = madeCells (Value.int .u8 0).cells 1024 := by
  rw [show (Value.int .u8 0).cells = #[Value.int .u8 0] from rfl, made_one]
  unfold rowB zeros
  rw [List.map_replicate]
theorem make_page (w : World) : (Instr.makeSlice 39 (.int .i64 1024) (.int .i64 1024)).run Try.prog w = .ok (.slice (some ⟨w.heap.size, 0, none⟩) 1024 1024) (w.alloc (.cells (rowB zeros) 5)) := by
  obtain ⟨i0, hi, hz0, hz1, hz2⟩ := info_parts info5
  have := run_make (P := Try.prog) w 39 5 i0 (.int .u8 0) Try.underlying39 hi hz0 .i64 .i64 1024 1024 (by omega) (by omega) (by rw [hz2]; omega) (by omega)
  rw [hz1] at this
  rw [zeros_row]
  exact this
/-- Three cells of a row of pages turned. -/
def Row3 (w w2 : World) (rb k : Nat) (x0 x1 x2 : Value) : Prop := ∀ cs : Array Value, w.heap[rb]? = some (.cells cs 121 (0, 0)) → k * 3 + 2 < cs.size → ∃ cs' : Array Value, w2.heap[rb]? = some (.cells cs' 121 (0, 0)) ∧ cs'.size = cs.size ∧ (∀ i, i ≠ k * 3 → i ≠ k * 3 + 1 → i ≠ k * 3 + 2 → cs'[i]? = cs[i]?) ∧ cs'[k * 3]? = some x0 ∧ cs'[k * 3 + 1]? = some x1 ∧ cs'[k * 3 + 2]? = some x2
theorem row3_set {w w1 : World} {rb k : Nat} (x0 x1 x2 : Value) (h : ∀ o, w.heap[rb]? = some o → w1.heap[rb]? = some o) : Row3 w (((w1.setCell ⟨rb, k * 3, none⟩ x0).setCell ⟨rb, k * 3 + 1, none⟩ x1).setCell ⟨rb, k * 3 + 2, none⟩ x2) rb k x0 x1 x2 := by
  intro cs hc hz
  refine ⟨_, bset (bset (bset (h _ hc) _ _) _ _) _ _, by simp, fun i h0 h1 h2 => ?_, ?_, ?_, ?_⟩
  · simp [Array.getElem?_setIfInBounds, Ne.symm h0, Ne.symm h1, Ne.symm h2]
  · simp [Array.getElem?_setIfInBounds, show k * 3 < cs.size by omega]
  · simp [Array.getElem?_setIfInBounds, show k * 3 + 1 < cs.size by omega]
  · simp [Array.getElem?_setIfInBounds, hz]
theorem SSp.page {w w2 : World} {F : Nat → Prop} {sb rb cr : Nat} {Ar : Option Addr} {db : Nat → Nat} {bud : Int} {A : Pages} (h : SSp w F sb rb Ar cr db bud A) {k : Nat} (hk : k < A.length) (y : Pg) (b : Nat)
    (hrow : Row3 w w2 rb k (onV y) (opV y) (dtV y b)) (hoth : ∀ i, i < w.heap.size → i ≠ rb → w2.heap[i]? = w.heap[i]?) (hz : w.heap.size ≤ w2.heap.size)
    (hy : ∀ bs op, y = some (bs, op) → bs.length = 1024 ∧ w2.heap[b]? = some (.cells (rowB bs) 5 (0, 0)) ∧ ∀ k', k' ≠ k → (pg A k').isSome = true → db k' ≠ b) :
    SSp w2 (fun i => F i ∨ (y.isSome = true ∧ i = b)) sb rb Ar cr (fun i => if i = k then b else db i) bud (A.set k y) := by
  have hp : 0 < A.length := by omega
  obtain ⟨h1, h2, cs, h3, h4, h5⟩ := h.hr hp
  obtain ⟨cs', g1, g2, g3, g4, g5, g6⟩ := hrow cs h3 (by omega)
  have hne := h.ne hp
  refine ⟨?_, fun _ => ⟨h1, .inl h2, cs', g1, by rw [List.length_set]; omega, fun i hi => ?_⟩, fun i bs op e => ?_, fun i i' e1 e2 e3 => ?_, .inl h.fs, fun i hi => ?_, by rw [List.length_set]; exact h.len, by rw [List.length_set]; exact h.cap⟩
  · rw [List.length_set, hoth _ (h.bound _ h.fs) (Ne.symm hne)]
    exact h.hs
  · rw [List.length_set] at hi
    rw [pg_set hk]
    by_cases e : i = k
    · subst e
      rw [if_pos rfl, if_pos rfl]
      exact ⟨g4, g5, g6⟩
    · rw [if_neg e, if_neg e, g3 _ (by omega) (by omega) (by omega), g3 _ (by omega) (by omega) (by omega), g3 _ (by omega) (by omega) (by omega)]
      exact h5 i hi
  · rw [pg_set hk] at e
    by_cases e1 : i = k
    · rw [if_pos e1] at e
      obtain ⟨q1, q2, q3⟩ := hy bs op e
      rw [if_pos e1]
      exact ⟨q1, .inr ⟨by rw [e]; rfl, rfl⟩, q2⟩
    · rw [if_neg e1] at e
      obtain ⟨q1, q2, q3⟩ := h.hd i bs op e
      rw [if_neg e1]
      exact ⟨q1, .inl q2, (hoth _ (h.bound _ q2) (h.data_ne (by rw [e]; rfl)).2).trans q3⟩
  · rw [pg_set hk] at e1 e2
    by_cases a1 : i = k
    · by_cases a2 : i' = k
      · omega
      · rw [if_pos a1] at e1
        simp only [if_pos a1, if_neg a2] at e3 e2
        obtain ⟨x, hx⟩ := Option.isSome_iff_exists.1 e1
        exact absurd e3.symm ((hy x.1 x.2 hx).2.2 i' a2 e2)
    · by_cases a2 : i' = k
      · rw [if_pos a2] at e2
        simp only [if_neg a1, if_pos a2] at e3 e1
        obtain ⟨x, hx⟩ := Option.isSome_iff_exists.1 e2
        exact absurd e3 ((hy x.1 x.2 hx).2.2 i a1 e1)
      · rw [if_neg a1] at e1
        rw [if_neg a2] at e2
        simp only [if_neg a1, if_neg a2] at e3
        exact h.inj i i' e1 e2 e3
  · rcases hi with hi | ⟨hi, rfl⟩
    · exact Nat.lt_of_lt_of_le (h.bound i hi) hz
    · obtain ⟨x, hx⟩ := Option.isSome_iff_exists.1 hi
      exact lt_of (hy x.1 x.2 hx).2.1
theorem SSp.on1 {w : World} {G : Nat → Prop} {sb rb cr : Nat} {Ar : Option Addr} {db : Nat → Nat} {bud : Int} {B : Pages} (h : SSp w G sb rb Ar cr db bud B) {i : Nat} (hk : i < B.length) :
    SSp ((((w.alloc (.cells (rowB zeros) 5)).setCell ⟨rb, i * 3, none⟩ (.bool true)).setCell ⟨rb, i * 3 + 1, none⟩ (.bool true)).setCell ⟨rb, i * 3 + 2, none⟩ (.slice (some ⟨w.heap.size, 0, none⟩) 1024 1024)).drew (fun k => G k ∨ ((some (zeros, true) : Pg).isSome = true ∧ k = w.heap.size)) sb rb Ar cr (fun k => if k = i then w.heap.size else db k) bud (B.set i (some (zeros, true))) := by
  have hr := (h.hr (by omega)).2.1
  have hrl := h.bound _ hr
  have hp := SSp.page h hk (some (zeros, true)) w.heap.size (row3_set (w1 := w.alloc (.cells (rowB zeros) 5)) (.bool true) (.bool true) (.slice (some ⟨w.heap.size, 0, none⟩) 1024 1024) (fun o ho => alloc_old ho _))
    (fun j hj hn => by rw [Below.heap_setCell _ _ _ _ hn, Below.heap_setCell _ _ _ _ hn, Below.heap_setCell _ _ _ _ hn]; exact (((Turn.refl w (fun _ => False)).alloc _).block j hj (fun e => e)))
    (by simp only [set_size]; simp)
    (fun bs op e => by
      cases e
      refine ⟨List.length_replicate, ?_, fun k' _ hs e => ?_⟩
      · have hn : w.heap.size ≠ rb := by omega
        rw [Below.heap_setCell _ _ _ _ hn, Below.heap_setCell _ _ _ _ hn, Below.heap_setCell _ _ _ _ hn]
        exact alloc_new _ _
      · obtain ⟨x, hx⟩ := Option.isSome_iff_exists.1 hs
        have := h.bound _ (h.hd k' x.1 x.2 hx).2.1
        omega)
  exact hp.move (fun _ _ => rfl) (Nat.le_refl _)
set_option maxRecDepth 100000 in
set_option maxHeartbeats 2000000 in
theorem commit_is {F : Nat → Prop} {sb : Nat} {bud : Int} {A : Pages} (w : World) (f c : Nat) (h : SSpace w F sb bud A) (hfc : f + c ≤ A.length) :
    Calls Try.prog 64 #[.pointer (some ⟨sb, 0, none⟩), .int .i64 f, .int .i64 c] w fun e w' => ∃ b G, e = .returned (.bool b) ∧ b = !decide (bud < (onCount A : Int) + c) ∧ SSpace w' G sb bud (if b = true then setR A f c (fun _ => some (zeros, true)) else A) ∧ (∀ k, G k → F k ∨ w.heap.size ≤ k) ∧ Turn w w' F := by
  have HW := Lib.hid h
  obtain ⟨rb, Ar, cr, db, h⟩ := h
  obtain ⟨k0, k1⟩ := h.scells
  have hlen := h.len
  have hoc : onCount A ≤ A.length := List.length_filter_le _ _
  have HI := Lib.hid h
  clear h
  have HWR : Hid (IntKind.i64.wrap ((onCount A : Int) + (c : Int)) = (onCount A : Int) + (c : Int)) := Lib.hid (IntWalk.i64_in _ (by omega))
  go_enter Try.func64, Try.ntmps64
  go_upto_region 1 with fail
  go_region_held3 (fun w' => w'.cell? ⟨sb, 1, none⟩ = some (.int .i64 bud)) (first | go_keep | (exact ckeep (w := w.drew) k1 hT)) (first | (go_at_call 47; refine (committed_is _ (SSpace.drewX HW.out)).mono ?_; rintro e w1 ⟨rfl, hT⟩))
  have hT1 : Turn w w1 (fun _ => False) := ((Turn.refl w _).drew).trans hT (fun _ e => e.elim)
  have HT := Lib.hid (hT1.mono (G := F) (fun _ e => e.elim))
  have HI1 := Lib.hid (HI.out.turned hT1 (fun _ _ e => e))
  have HFB : Hid (∀ k, F k → F k ∨ w.heap.size ≤ k) := Lib.hid (fun k hk => .inl hk)
  rw [HWR.out]
  clear hT hT1 HI HW k0 k1
  cases hb : decide (bud < (onCount A : Int) + c) with
  | true =>
    go_wp2
    go_ret
    exact ⟨false, F, rfl, (congrArg Bool.not hb).symm, ⟨_, _, _, _, by rw [if_neg (by simp)]; exact HI1.out⟩, HFB.out, HT.out⟩
  | false =>
    have HI0 : Hid (SSp w1 F sb rb Ar cr db bud (setR A f 0 (fun _ => some (zeros, true)))) := by rw [setR_zero]; exact HI1
    clear HI1
    go_wp2_with fail
    go_loopw [7] (fun i W => ∃ j : Nat, i = .int .i64 ((f + j : Nat) : Int) ∧ j ≤ c ∧ ∃ G db, Hid (SSp W G sb rb Ar cr db bud (setR A f j (fun _ => some (zeros, true)))) ∧ Hid (∀ k, G k → F k ∨ w.heap.size ≤ k) ∧ Hid (Turn w W F)) (fun i _ => f + c - (intOf i).toNat)
    case atStart => exact ⟨0, rfl, Nat.zero_le _, F, db, HI0, HFB, HT⟩
    case round =>
      clear HI0 HT
      obtain ⟨j, rfl, hj, G, db, HI, HG, HT⟩ := hrel
      obtain ⟨i, hi⟩ : ∃ i, f + j = i := ⟨_, rfl⟩
      rw [hi]
      by_cases hlt : j < c
      · have hlt2 : i < f + c := by omega
        have hnx := setR_succ (g := fun _ => some (zeros, true)) (show f + j < A.length by omega)
        rw [hi] at hnx
        have hil : i < (setR A f j (fun _ => some (zeros, true))).length := by rw [setR_len]; omega
        have HNX := Lib.hid hnx
        obtain ⟨B, hB⟩ : ∃ B, setR A f j (fun _ => some (zeros, true)) = B := ⟨_, rfl⟩
        rw [hB] at HI HNX hil
        have hol : B.length ≤ 4096 := HI.out.len
        obtain ⟨h1, c0, c1, c2, hf⟩ := HI.out.cells hil
        obtain ⟨k0, k1⟩ := HI.out.scells
        subst h1
        have HIX := Lib.hid hi
        have HF := Lib.hid hf
        have f0 := hf (i * 3)
        have f1 := hf (i * 3 + 1)
        have f2 := hf (i * 3 + 2)
        have hmk := make_page
        have hz2 : ¬ rb = wr.heap.size := fun e => by have := (HI.out.hr (by omega)).2.1; have := HI.out.bound _ this; omega
        have hz3 : ¬ sb = wr.heap.size := fun e => by have := HI.out.bound _ HI.out.fs; omega
        have hA2 := HI.out.turned (G := fun _ => False) ((Turn.refl wr _).alloc (.cells (rowB zeros) 5)) (fun _ _ e => e)
        obtain ⟨_, a0, a1, a2, af⟩ := hA2.cells hil
        obtain ⟨b0, b1⟩ := hA2.scells
        have af0 := af (i * 3)
        have af1 := af (i * 3 + 1)
        have af2 := af (i * 3 + 2)
        clear hnx hi hB hf af hA2
        go_upto_region 6 with fail
        go_region
        have HI5 := Lib.hid (SSp.on1 HI.out hil)
        rw [← HNX.out] at HI5
        have HG5 : Hid (∀ k, (G k ∨ ((some (zeros, true) : Pg).isSome = true ∧ k = wr.heap.size)) → F k ∨ w.heap.size ≤ k) := Lib.hid (fun k hk => hk.elim (HG.out k) (fun e => .inr (by have := e.2; have := HT.out.size; omega)))
        have hrF := HG.out rb (HI.out.hr (by omega)).2.1
        have HT5 := Lib.hid (((((HT.out.alloc (.cells (rowB zeros) 5)).setCell (p := ⟨rb, i * 3, none⟩) hrF (.bool true)).setCell (p := ⟨rb, i * 3 + 1, none⟩) hrF (.bool true)).setCell (p := ⟨rb, i * 3 + 2, none⟩) hrF (.slice (some ⟨wr.heap.size, 0, none⟩) 1024 1024)).drew)
        obtain ⟨w6, hw6⟩ : ∃ x, ((((wr.alloc (.cells (rowB zeros) 5)).setCell ⟨rb, i * 3, none⟩ (.bool true)).setCell ⟨rb, i * 3 + 1, none⟩ (.bool true)).setCell ⟨rb, i * 3 + 2, none⟩ (.slice (some ⟨wr.heap.size, 0, none⟩) 1024 1024)).drew = x := ⟨_, rfl⟩
        rw [hw6] at HI5 HT5 ⊢
        clear hw6 a0 a1 a2 b0 b1 af0 af1 af2 f0 f1 f2 hmk c0 c1 c2 k0 k1 hrF hz2 hz3
        go_wp2_with fail
        go_roundw
        case rel => exact ⟨j + 1, by rw [show f + (j + 1) = i + 1 by have := HIX.out; omega]; go_num, by omega, _, _, HI5, HG5, HT5⟩
        case measure => simp [intOf]; omega
      · obtain rfl : c = j := by omega
        have hlt2 : ¬ i < f + c := by omega
        clear hi
        go_wp2
        go_ret
        exact ⟨true, G, rfl, (congrArg Bool.not hb).symm, ⟨_, _, _, _, by rw [if_pos rfl]; exact HI.out⟩, HG.out, HT.out⟩
end Go.Proofs.Ytklobepkihdbkaa.SsM
