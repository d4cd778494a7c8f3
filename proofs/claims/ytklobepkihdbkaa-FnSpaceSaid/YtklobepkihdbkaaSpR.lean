/- The program's RunSpace. -/
import Derived.Test.YtklobepkihdbkaaSpO
import Derived.Test.YtklobepkihdbkaaPFnExactRunSpacex0
import Derived.Test.YtklobepkihdbkaaWApart
import Derived.Deep.RegionLaw
import Derived.Deep.DeepCutAuto
import Derived.Deep.CutBlock
namespace Go.Proofs.Ytklobepkihdbkaa.SpR
open Go.RowKit Go.MuLone Go.Proofs.YtklobepkihdbkaaW.PrintWords Go.Proofs.Ytklobepkihdbkaa.PFnExactRunSpace Mem Sp SpI SpA SpP SpQ SpD SpO
set_option linter.unusedVariables false
set_option linter.unusedSimpArgs false
/-! ### a new space -/
def fresh (n : Nat) : Pages := List.replicate n none
theorem pg_fresh (n k : Nat) : pg (fresh n) k = none := by
  unfold pg fresh
  simp [List.getD_eq_getElem?_getD, List.getElem?_replicate]
  split <;> rfl
theorem onCount_fresh (n : Nat) : onCount (fresh n) = 0 := by
  unfold onCount fresh
  rw [List.filter_replicate_of_neg (by simp)]
  rfl
set_option maxHeartbeats 1000000 in
theorem newSpace_is (w : World) (n : Nat) (bud : Int) (hn : n ≤ 4096) :
    Calls Try.prog 42 #[.int .i64 n, .int .i64 bud] w fun e w' => ∃ sb, e = .returned (.pointer (some ⟨sb, 0, none⟩)) ∧ ISpace w' (fun k => w.heap.size ≤ k ∧ k < w'.heap.size) sb 0 bud (fresh n) ∧ Turn w w' (fun _ => False) := by
  have hmm := @run_makeMap Try.prog
  go_enter Try.func42, Try.ntmps42
  go_wp2
  go_ret
  refine ⟨_, rfl, ⟨w.heap.size, fun _ => 0, ?_⟩, ((Turn.refl w _).alloc _).alloc _⟩
  have h1 := alloc_new (w.alloc (.map #[] 0)) (.cells #[.int .i32 0, .int .u32 0, .map (some w.heap.size), .int .i64 n, .int .i64 bud] 95)
  have hz : (w.alloc (.map #[] 0)).heap.size = w.heap.size + 1 := by simp
  rw [hz] at h1
  refine ⟨?_, ?_, fun k bs op e => (by rw [pg_fresh] at e; cases e), fun k k' e => (by rw [pg_fresh] at e; cases e), ⟨by omega, by simp⟩, ⟨by omega, by simp; omega⟩, fun k hk => hk.2, by unfold fresh; simpa using hn⟩
  · have hl : (fresh n).length = n := List.length_replicate
    rw [hl]
    exact h1
  · rw [onCount_fresh]
    refine (PMap.move (PMap.new (c := ptrC) (q := .i64) w) (alloc_old (alloc_new w _) _ |>.trans (alloc_new w _).symm)).congr fun x hx => ?_
    unfold pgIn
    rw [pg_fresh]
    simp
/-! ### runs -/
def stepA (bud : Int) (A : Pages) (o : S52) : Pages := doA bud A o.f0 o.f1 o.f2 o.f3 o.f5
def ansO (bud : Int) (A : Pages) (o : S52) : S54 := ⟨doC bud A o.f0 o.f1 o.f2 o.f3 o.f4 o.f5, doD A o.f0 o.f3 o.f4⟩
theorem cell_turn {w W : World} (h : Turn w W (fun _ => False)) {a : Addr} {v : Value} (hc : w.cell? a = some v) : W.cell? a = some v := by
  have hlt : a.block < w.heap.size := by
    by_cases e : a.block < w.heap.size
    · exact e
    · have : w.heap[a.block]? = none := by simp; omega
      simp [World.cell?, this] at hc
  have := h.block _ hlt (fun e => e)
  unfold World.cell? at hc ⊢
  rw [this]
  exact hc
def runS (bud : Int) (n : Nat) (ops : List S52) : Nat → Pages
  | 0 => fresh n
  | j + 1 => stepA bud (runS bud n ops j) (ops.getD j z52)
def runO (bud : Int) (n : Nat) (ops : List S52) (j : Nat) : List S54 := (List.range j).map fun i => ansO bud (runS bud n ops i) (ops.getD i z52)
theorem runO_succ (bud : Int) (n : Nat) (ops : List S52) (j : Nat) : runO bud n ops (j + 1) = runO bud n ops j ++ [ansO bud (runS bud n ops j) (ops.getD j z52)] := by simp [runO, List.range_succ]
theorem runO_len (bud : Int) (n : Nat) (ops : List S52) (j : Nat) : (runO bud n ops j).length = j := by simp [runO]
/-- What stands between two operations. -/
structure RunI (w W : World) (F : Nat → Prop) (sb bx : Nat) (bud : Int) (A : Pages) (va : Value) (xs : List S54) : Prop where
  s : ISpace W F sb 0 bud A
  b : W.heap[bx]? = some (.cells #[.bool true, va, .int .i64 0, .slice none 0 0] 48 (0, 0))
  r : W.heap[w.heap.size]? = some (.cells #[.bool false, .slice none 0 0, .int .i64 0, .slice none 0 0] 48 (0, 0))
  a : Kd.S k54 54 W (w.heap.size + 1) (fun k => ¬ F k ∧ k ≠ bx) va xs
  t : Turn w W (fun _ => False)
  f : ∀ k, F k → w.heap.size + 1 ≤ k ∧ k ≠ bx
  hb : w.heap.size + 1 ≤ bx
section
variable {w W W' W1 : World} {F G : Nat → Prop} {sb bx : Nat} {bud : Int} {A A' : Pages} {va v1 vd : Value} {xs : List S54} {p : S54}
theorem RunI.alloc (h : RunI w W F sb bx bud A va xs) (o : Obj) : RunI w (W.alloc o) F sb bx bud A va xs :=
  ⟨h.s.turned (G := fun _ => False) ((Turn.refl W _).alloc o) (fun _ _ e => e), alloc_old h.b o, alloc_old h.r o, Kd.S_alloc h.a o, h.t.alloc o, h.f, h.hb⟩
theorem RunI.drew (h : RunI w W F sb bx bud A va xs) : RunI w W.drew F sb bx bud A va xs :=
  ⟨h.s.turned (G := fun _ => False) (Turn.refl W _).drew (fun _ _ e => e), h.b, h.r, Kd.S_drew h.a, h.t.drew, h.f, h.hb⟩
/-- Behind an operation, ahead of the append. -/
structure RunM (w W W' : World) (F G : Nat → Prop) (sb bx : Nat) (bud : Int) (A : Pages) (va : Value) (xs : List S54) (p : S54) (vd : Value) : Prop where
  s : ISpace W' G sb 0 bud A
  b : W'.heap[bx]? = some (.cells #[.bool true, va, .int .i64 0, .slice none 0 0] 48 (0, 0))
  r : W'.heap[w.heap.size]? = some (.cells #[.bool false, .slice none 0 0, .int .i64 0, .slice none 0 0] 48 (0, 0))
  a : Kd.S k54 54 W' (w.heap.size + 1) (fun k => (¬ G k ∧ k ≠ bx) ∧ ¬ (W.heap.size ≤ k ∧ ¬ G k)) va xs
  m : k54.M W' (w.heap.size + 1) (fun k => W.heap.size ≤ k ∧ ¬ G k) p [.int .i64 p.f0, vd]
  k : ∀ k, (W.heap.size ≤ k ∧ ¬ G k) → (¬ G k ∧ k ≠ bx) ∧ some k ≠ va.ownBlock
  t : Turn w W' (fun _ => False)
  f : ∀ k, G k → w.heap.size + 1 ≤ k ∧ k ≠ bx
  hb : w.heap.size + 1 ≤ bx
  z : bx < W'.heap.size
  gb : ∀ k, G k → k < W'.heap.size
theorem RunI.did (h : RunI w W F sb bx bud A va xs) (hz : w.heap.size + 1 ≤ W.heap.size) (hI : ISpace W' G sb 0 bud A') (hG : ∀ k, G k → F k ∨ W.heap.size ≤ k) (hT : Turn W W' F) (hR : (Kd.int .u8).R 5 W' W.heap.size (fun k => ¬ G k) vd p.f1) :
    RunM w W W' F G sb bx bud A' va xs p vd := by
  have hbz := lt_of h.b
  have hnb : ¬ F bx := fun e => (h.f bx e).2 rfl
  have hnr : ¬ F w.heap.size := fun e => by have := (h.f _ e).1; omega
  refine ⟨hI, hT.blk hnb h.b, hT.blk hnr h.r, ?_, ?_, fun k hk => ⟨⟨hk.2, by omega⟩, fun e => ?_⟩, h.t.trans hT (fun k e => .inr (by have := (h.f k e).1; omega)), fun k hk => ?_, h.hb, by have := hT.size; omega, hI.bound⟩
  · refine Kd.S_mono (Kd.S_move (Kd.S_mono (Kd.S_bound h.a) (ok' := fun k => (¬ G k ∧ k ≠ bx) ∧ k < W.heap.size ∧ ¬ F k) (fun k hk => ?_)) (fun k hk => hT.block k hk.2.1 hk.2.2)) (fun k hk => ⟨hk.1, fun e => by omega⟩)
    have := hk.2.2.1
    refine ⟨⟨fun e => ?_, hk.1.2⟩, by omega, hk.1.1⟩
    rcases hG k e with h1 | h1
    · exact hk.1.1 h1
    · omega
  · refine k54_mkM W' (w.heap.size + 1) _ p ?_
    exact Kd.R_mono (Kd.R_lower (Kd.R_bound hR) (by omega)) (fun k hk => ⟨hk.2.1, hk.1⟩)
  · have := Kd.S_lt h.a k e.symm
    omega
  · rcases hG k hk with h1 | h1
    · exact h.f k h1
    · exact ⟨by omega, by omega⟩
theorem RunM.app (h : RunM w W W' F G sb bx bud A va xs p vd) (hS : Kd.S k54 54 W1 (w.heap.size + 1) (fun k => ¬ G k ∧ k ≠ bx) v1 (xs ++ [p])) (hg : W'.grownBy W1 va.ownBlock) :
    W1.heap[bx]? = some (.cells #[.bool true, va, .int .i64 0, .slice none 0 0] 48 (0, 0)) ∧ RunI w (W1.setCell ⟨bx, 1, none⟩ v1) G sb bx bud A v1 (xs ++ [p]) := by
  have hS0 := Kd.S_bound h.a
  have hok : ∀ b, va.ownBlock = some b → (¬ G b ∧ b ≠ bx) ∧ w.heap.size + 1 ≤ b := fun b e => ⟨((Kd.S_R hS0).1 b e).1.1, ((Kd.S_R hS0).1 b e).2.1⟩
  have hT := (Turn.refl W' (fun k => va.ownBlock = some k)).grown hg (fun b e => .inl e)
  have hb1 := hT.blk (fun e => (hok _ e).1.2 rfl) h.b
  refine ⟨hb1, ?_, bset hb1 1 _, set_other (hT.blk (fun e => by have := (hok _ e).2; omega) h.r) (by have := h.hb; intro e; simp only at e; omega) _, Kd.S_far hS (p := ⟨bx, 1, none⟩) (fun k hk => hk.2) _, ?_, h.f, h.hb⟩
  · exact h.s.turned (G := fun k => va.ownBlock = some k ∨ k = bx) ((hT.mono (fun k e => .inl (.inl e))).setCell (p := ⟨bx, 1, none⟩) (.inl (.inr rfl)) _) (fun k e hk => hk.elim (fun e2 => (hok k e2).1.1 e) (h.f k e).2)
  · exact (h.t.trans hT (fun k e => .inr (by have := (hok k e).2; omega))).setCell (p := ⟨bx, 1, none⟩) (.inr (by have := h.hb; show w.heap.size ≤ bx; omega)) _
/-- What RunSpace answers. -/
def RnPost (w : World) (ok : Bool) (xs : List S54) (cm : Int) (op : List Int) (e : Ending) (w' : World) : Prop :=
  ∃ va vo, ∃ B : Nat, e = .returned (.agg #[.bool ok, va, .int .i64 cm, vo]) ∧ Kd.S k54 54 w' w.heap.size (fun k => k < B) va xs ∧ (Kd.int .i64).R 3 w' w.heap.size (fun k => B ≤ k) vo op ∧ Below w.heap.size w w'
def runOK (pages budget : Int) (n : Nat) : Bool := decide (0 ≤ pages ∧ pages ≤ 4096 ∧ 0 ≤ budget ∧ n ≤ 400)
theorem rn_no (w : World) : RnPost w false [] 0 [] (.returned (.agg #[.bool false, .slice none 0 0, .int .i64 0, .slice none 0 0])) (w.alloc (.cells #[.bool false, .slice none 0 0, .int .i64 0, .slice none 0 0] 48)) :=
  ⟨_, _, 0, rfl, Kd.S_nil _ _ _ _ _, Kd.R_nil _ _ _ _ _, ((Turn.refl w (fun _ => False)).alloc _).below (Nat.le_refl _) (fun k e => e.elim)⟩
end
/-- The end of RunSpace: two fields stored, the report copied into the result. -/
theorem rn_end {w W w5 : World} {F : Nat → Prop} {sb bx : Nat} {bud cm : Int} {A : Pages} {va vo a0 a1 a2 a3 : Value} {xs : List S54} {op : List Int} (h : RunI w W F sb bx bud A va xs) (hT : Turn W w5 (fun _ => False)) (hR : (Kd.int .i64).R 3 w5 W.heap.size (fun _ => True) vo op) :
    RnPost w true xs cm op (.returned (.agg #[.bool true, va, .int .i64 cm, vo])) ((((((w5.setCell ⟨bx, 2, none⟩ (.int .i64 cm)).setCell ⟨bx, 3, none⟩ vo).setCell ⟨w.heap.size, 0, none⟩ a0).setCell ⟨w.heap.size, 1, none⟩ a1).setCell ⟨w.heap.size, 2, none⟩ a2).setCell ⟨w.heap.size, 3, none⟩ a3) := by
  have hb := h.hb
  have hbz := lt_of h.b
  have hall : ∀ W0 : World, Turn W0 w5 (fun k => k = bx ∨ k = w.heap.size) → Turn W0 ((((((w5.setCell ⟨bx, 2, none⟩ (.int .i64 cm)).setCell ⟨bx, 3, none⟩ vo).setCell ⟨w.heap.size, 0, none⟩ a0).setCell ⟨w.heap.size, 1, none⟩ a1).setCell ⟨w.heap.size, 2, none⟩ a2).setCell ⟨w.heap.size, 3, none⟩ a3) (fun k => k = bx ∨ k = w.heap.size) := fun W0 h0 =>
    (((((h0.setCell (p := ⟨bx, 2, none⟩) (.inl (.inl rfl)) _).setCell (p := ⟨bx, 3, none⟩) (.inl (.inl rfl)) _).setCell (p := ⟨w.heap.size, 0, none⟩) (.inl (.inr rfl)) _).setCell (p := ⟨w.heap.size, 1, none⟩) (.inl (.inr rfl)) _).setCell (p := ⟨w.heap.size, 2, none⟩) (.inl (.inr rfl)) _).setCell (p := ⟨w.heap.size, 3, none⟩) (.inl (.inr rfl)) _
  have h5 := hall w5 (Turn.refl _ _)
  have hW := hall W (hT.mono (fun k e => e.elim))
  refine ⟨_, _, W.heap.size, rfl, ?_, ?_, ?_⟩
  · refine Kd.S_lower (Kd.S_mono (Kd.S_move (Kd.S_bound h.a) (fun k hk => hW.block k hk.2.2.1 (fun e => ?_))) (fun k hk => hk.2.2.1)) (by omega : w.heap.size ≤ w.heap.size + 1)
    rcases e with e | e
    · exact hk.1.2 e
    · have := hk.2.1; omega
  · refine Kd.R_mono (Kd.R_lower (Kd.R_move (Kd.R_bound hR) (fun k hk => h5.block k hk.2.2.1 (fun e => ?_))) (by omega : w.heap.size ≤ W.heap.size)) (fun k hk => hk.2.1)
    have := hk.2.1
    rcases e with e | e <;> omega
  · exact (h.t.trans hW (fun k e => .inr (by rcases e with e | e <;> omega))).below (Nat.le_refl _) (fun k e => e.elim)
theorem info54 : (Try.prog.info? 54).map (fun i => (i.zero, i.size, i.bytes)) = some (some (.agg #[.int .i64 0, .slice none 0 0]), 2, 32) := by kernel_rfl
/-- The operation's data lie where they lay. -/
theorem data_on {w W : World} {Ad : Option Addr} {n : Nat} {xs : List Int} (hd : (Kd.int .u8).C w Ad n xs) (hT : Turn w W (fun _ => False)) : (Kd.int .u8).C W Ad n xs := C_move hd (fun ad hA hn => hT.block _ (C_lt hd ad hA hn) (fun e => e))
set_option maxRecDepth 100000 in
set_option maxHeartbeats 4000000 in
theorem run_is (w : World) (pages budget : Int) (Ao : Option Addr) (co : Nat) (ops : List S52) (hp : IntKind.i64.wrap pages = pages) (hb : IntKind.i64.wrap budget = budget) (hops : Kd.C k52 w Ao ops.length ops) (hlen : ops.length ≤ co) (hco : (ops.length : Int) ≤ 9223372036854775807)
    (hf : ∀ o ∈ ops, 0 ≤ o.f3 ∧ o.f3 ≤ 18446744073709551615) :
    Calls Try.prog 23 #[.int .i64 pages, .int .i64 budget, .slice Ao ops.length co] w
      (RnPost w (runOK pages budget ops.length) (if runOK pages budget ops.length then runO budget pages.toNat ops ops.length else []) (if runOK pages budget ops.length then (onCount (runS budget pages.toNat ops ops.length) : Int) else 0) (if runOK pages budget ops.length then openL (runS budget pages.toNat ops ops.length) else [])) := by
  have HOps := Lib.hid hops
  have HF := Lib.hid hf
  clear hops hf
  cases hq : runOK pages budget ops.length with
  | false =>
    simp only [Bool.false_eq_true, if_false]
    have hq2 : ¬ (0 ≤ pages ∧ pages ≤ 4096 ∧ 0 ≤ budget ∧ ops.length ≤ 400) := by simpa [runOK] using hq
    go_enter Try.func23, Try.ntmps23
    go_wp2
    all_goals
      refine bodyPost_ret (v := .agg #[.bool false, .slice none 0 0, .int .i64 0, .slice none 0 0]) ?_ rfl (rn_no w)
      simp [results, Try.results23, go_sem]
  | true =>
    simp only [if_true]
    have hq2 : 0 ≤ pages ∧ pages ≤ 4096 ∧ 0 ≤ budget ∧ ops.length ≤ 400 := by simpa [runOK] using hq
    obtain ⟨h0, h1, h2, h3⟩ := hq2
    have b0 : decide (pages < 0) = false := by simp; omega
    have b1 : decide (4096 < pages) = false := by simp; omega
    have b2 : decide (budget < 0) = false := by simp; omega
    have b3 : decide ((400 : Int) < ops.length) = false := by simp; omega
    obtain ⟨r1, hr1⟩ : ∃ x, w.alloc (.cells #[.bool false, .slice none 0 0, .int .i64 0, .slice none 0 0] 48) = x := ⟨_, rfl⟩
    have hz1 : r1.heap.size = w.heap.size + 1 := by rw [← hr1]; simp
    have hc1 : r1.heap[w.heap.size]? = some (.cells #[.bool false, .slice none 0 0, .int .i64 0, .slice none 0 0] 48 (0, 0)) := by rw [← hr1]; exact alloc_new _ _
    have HT1 := Lib.hid (by rw [← hr1]; exact (Turn.refl w _).alloc _ : Turn w r1 (fun _ => False))
    have HC1 := Lib.hid hc1
    have HZ1 := Lib.hid hz1
    have HR1 := Lib.hid hr1
    have HN := Lib.hid (newSpace_is r1 pages.toNat budget (by omega))
    rw [Int.toNat_of_nonneg h0] at HN
    have HQ := Lib.hid (And.intro h0 (And.intro h1 (And.intro h2 h3)))
    clear hz1 hc1 hr1 hq h0 h1 h2 h3
    go_enter Try.func23, Try.ntmps23
    go_wp2_with (rw [HR1.out]; go_at_call 42; refine HN.out.mono ?_; rintro e w2 ⟨sb, rfl, hS2, hT2⟩; have HS2 := Lib.hid hS2; have HT2 := Lib.hid hT2; clear hS2 hT2)
    obtain ⟨w3, hw3⟩ : ∃ x, w2.alloc (.cells #[.bool true, .slice none 0 0, .int .i64 0, .slice none 0 0] 48) = x := ⟨_, rfl⟩
    have hI0 : RunI w w3 (fun k => r1.heap.size ≤ k ∧ k < w2.heap.size) sb w2.heap.size budget (runS budget pages.toNat ops 0) (.slice none 0 0) (runO budget pages.toNat ops 0) := by
      have hz := HT2.out.size
      have hz1 := HZ1.out
      have hsb := HS2.out.turned (G := fun _ => False) ((Turn.refl w2 _).alloc (.cells #[.bool true, .slice none 0 0, .int .i64 0, .slice none 0 0] 48)) (fun _ _ e => e)
      rw [hw3] at hsb
      refine ⟨hsb, by rw [← hw3]; exact alloc_new _ _, by rw [← hw3]; exact alloc_old (HT2.out.blk (fun e => e) HC1.out) _, Kd.S_nil _ _ _ _ _, by rw [← hw3]; exact (HT1.out.trans HT2.out (fun k e => e.elim)).alloc _, fun k hk => ⟨by omega, by omega⟩, by omega⟩
    have HI0 := Lib.hid hI0
    have HB2 := Lib.hid (show w.heap.size + 1 ≤ w2.heap.size by have := HT2.out.size; have := HZ1.out; omega)
    rw [hw3]
    obtain ⟨bx, hbx⟩ : ∃ x, w2.heap.size = x := ⟨_, rfl⟩
    rw [hbx] at HI0 HB2 ⊢
    have HBX := Lib.hid hbx
    clear hw3 hI0 hbx
    go_loopw [33] (fun i W => ∃ j : Nat, i = .int .i64 j ∧ j ≤ ops.length ∧ ∃ F va, Hid (RunI w W F sb bx budget (runS budget pages.toNat ops j) va (runO budget pages.toNat ops j))) (fun i _ => ops.length - (intOf i).toNat)
    case atStart => exact ⟨0, rfl, Nat.zero_le _, _, _, HI0⟩
    case round =>
      clear HI0
      obtain ⟨j, rfl, hj, F, va, HR⟩ := hrel
      by_cases hlt : j < ops.length
      · obtain ⟨ad, A5, c5, hA, g0, g1, g2, g3, g4, g5, hl5, hd⟩ := at_T52 HOps.out j (by omega) (by omega)
        rw [Int.toNat_natCast] at g0 g1 g2 g3 g4 g5
        subst hA
        have hrd : rd_T52 ops (j : Int) = ops.getD j z52 := by unfold rd_T52; rw [Int.toNat_natCast]
        rw [hrd] at g0 g1 g2 g3 g4 g5 hl5 hd
        have hmem : ops.getD j z52 ∈ ops := by rw [List.getD_eq_getElem?_getD, List.getElem?_eq_getElem hlt]; exact List.getElem_mem hlt
        have hfa := HF.out _ hmem
        obtain ⟨o, ho⟩ : ∃ o, ops.getD j z52 = o := ⟨_, rfl⟩
        rw [ho] at g0 g1 g2 g3 g4 g5 hl5 hd hfa
        have HO := Lib.hid ho
        have HFA := Lib.hid hfa
        have HD := Lib.hid hd
        clear hfa hmem hrd ho hd
        have q0 := cell_turn HR.out.t g0
        have q1 := cell_turn HR.out.t g1
        have q2 := cell_turn HR.out.t g2
        have q3 := cell_turn HR.out.t g3
        have q4 := cell_turn HR.out.t g4
        have q5 := cell_turn HR.out.t g5
        clear g0 g1 g2 g3 g4 g5
        go_upto_region 8 with fail
        obtain ⟨wa, hwa⟩ : ∃ x, wr.alloc (.cells #[.int .i64 o.f0, .int .i64 o.f1, .int .i64 o.f2, .int .u64 o.f3, .int .i64 o.f4, .slice A5 o.f5.length c5] 52) = x := ⟨_, rfl⟩
        have hra := HR.out.alloc (.cells #[.int .i64 o.f0, .int .i64 o.f1, .int .i64 o.f2, .int .u64 o.f3, .int .i64 o.f4, .slice A5 o.f5.length c5] 52)
        have hta := alloc_new wr (.cells #[.int .i64 o.f0, .int .i64 o.f1, .int .i64 o.f2, .int .u64 o.f3, .int .i64 o.f4, .slice A5 o.f5.length c5] 52)
        rw [hwa] at hra hta ⊢
        obtain ⟨tb, htb⟩ : ∃ x, wr.heap.size = x := ⟨_, rfl⟩
        rw [htb] at hta ⊢
        obtain ⟨p, hpd⟩ : ∃ p, ansO budget (runS budget pages.toNat ops j) o = p := ⟨_, rfl⟩
        have hdo := do_is wa.drew o.f0 o.f1 o.f2 o.f3 o.f4 A5 c5 o.f5 (hra.drew).s HFA.out.1 HFA.out.2 (data_on HD.out hra.t.drew) (fun ad hA hn e => by have := C_lt HD.out ad hA hn; have := (hra.f _ e).1; omega)
        have e1 : doC budget (runS budget pages.toNat ops j) o.f0 o.f1 o.f2 o.f3 o.f4 o.f5 = p.f0 := by rw [← hpd]; rfl
        have e2 : doD (runS budget pages.toNat ops j) o.f0 o.f3 o.f4 = p.f1 := by rw [← hpd]; rfl
        have e3 : doA budget (runS budget pages.toNat ops j) o.f0 o.f1 o.f2 o.f3 o.f5 = runS budget pages.toNat ops (j + 1) := by rw [runS, HO.out]; rfl
        have e4 : runO budget pages.toNat ops j ++ [p] = runO budget pages.toNat ops (j + 1) := by rw [runO_succ, HO.out, hpd]
        rw [e1, e2, e3] at hdo
        have HDO := Lib.hid hdo
        have HE4 := Lib.hid e4
        have HRA := Lib.hid hra
        have hl4 := runO_len budget pages.toNat ops j
        obtain ⟨xs, hxs⟩ : ∃ xs, runO budget pages.toNat ops j = xs := ⟨_, rfl⟩
        rw [hxs] at HE4 HRA hl4
        have HL4 := Lib.hid (show (xs.length + 1) * 32 ≤ 140737488355328 by rw [hl4]; have := HQ.out.2.2.2; omega)
        have HLN := Lib.hid (show (xs ++ [p]).length = j + 1 by simp [hl4])
        have HZA := Lib.hid (show w.heap.size + 1 ≤ wa.heap.size by have := hra.hb; have := lt_of hra.b; omega)
        have k0 := bcell hta 0
        have k1 := bcell hta 1
        have k2 := bcell hta 2
        have k3 := bcell hta 3
        have k4 := bcell hta 4
        have k5 := bcell hta 5
        have k6 := bcell hra.b 1
        simp only [List.getElem?_toArray, List.getElem?_cons_succ, List.getElem?_cons_zero] at k0 k1 k2 k3 k4 k5 k6
        clear hwa hra hta htb hpd hdo e1 e2 e3 e4 hl4 hxs q0 q1 q2 q3 q4 q5
        go_region_law (first | (go_simp; go_at_call 43; refine HDO.out.mono ?_; rintro e w5 ⟨vd, G, rfl, hI, hG, hT, hRd⟩; have HM := Lib.hid (RunI.did (p := p) (HRA.out.drew) HZA.out hI hG hT hRd); have k7 := bcell HM.out.b 1; have k7b := bcell (alloc_old HM.out.b (Obj.cells #[.int .i64 p.f0, vd] 54)) 1; simp only [List.getElem?_toArray, List.getElem?_cons_succ, List.getElem?_cons_zero] at k7 k7b; clear hI hG hT hRd) | (refine Kd.S_append_step k54 (w0 := w5) (w.heap.size + 1) (by rfl) _ _ 46 54 (.agg #[.int .i64 0, .slice none 0 0]) 32 (by rfl) Try.underlying46 info54 rfl (by decide) (by omega) va xs p [.int .i64 p.f0, vd] (fun k => ¬ G k ∧ k ≠ bx) (fun k => wa.drew.heap.size ≤ k ∧ ¬ G k) (by rfl) (by rfl) HM.out.m ?aK ?aF HM.out.a ?aB ?aS HL4.out ?_; (case aK => exact HM.out.k); (case aF => exact fun k hk => ⟨fun e => by have := HM.out.gb k e; omega, fun e => by have := HM.out.z; omega⟩); (case aB => exact Below.refl _ _); (case aS => (have := HM.out.z; have := HM.out.hb; omega)); intro v1 w6 hS6 hB6 hg6 hat6; obtain ⟨A1, c1, hv1, _, _⟩ := Kd.S_reads hS6; rw [HLN.out] at hv1; subst hv1; have hAp := HM.out.app hS6 hg6; rw [HE4.out] at hAp; have HAP := Lib.hid hAp; have k8 := bcell HAP.out.1 1; have k9 := bfroz HAP.out.1 1; simp only [List.getElem?_toArray, List.getElem?_cons_succ, List.getElem?_cons_zero] at k8; clear hS6 hB6 hg6 hat6 hAp))
        all_goals
          obtain ⟨w7, hw7⟩ : ∃ x, (w6.setCell ⟨bx, 1, none⟩ (.slice A1 (j + 1) c1)) = x := ⟨_, rfl⟩
          have HL7 := Lib.hid HAP.out.2
          rw [hw7] at HL7 ⊢
          clear hw7 HAP k8 k9 k0 k1 k2 k3 k4 k5 k6 k7 k7b
          go_wp2_with fail
          go_roundw
          case rel => exact ⟨j + 1, by go_num, by omega, _, _, HL7⟩
          case measure => simp [intOf]; omega
      · obtain rfl : ops.length = j := by omega
        obtain ⟨A1, c1, rfl, hc1, _⟩ := Kd.S_reads HR.out.a
        rw [runO_len] at HR hc1
        obtain ⟨mb, pb, hI⟩ := HR.out.s
        have k0 := bcell hI.hs 2
        simp only [List.getElem?_toArray, List.getElem?_cons_succ, List.getElem?_cons_zero] at k0
        have hlr : (Builtin.len_ #[93] 3 #[.map (some mb)]).run Try.prog wr = .ok (.int .i64 (onCount (runS budget pages.toNat ops ops.length))) wr := PMap.len_run Try.underlying3 Try.underlying93 hI.hm 3
        have HO := Lib.hid (openPages_is wr HR.out.s)
        clear hI
        obtain ⟨cm, hcm⟩ : ∃ x : Int, (onCount (runS budget pages.toNat ops ops.length) : Int) = x := ⟨_, rfl⟩
        rw [hcm] at hlr
        have HCM := Lib.hid hcm
        clear hcm
        go_upto_region 11 with (go_at_call 44; refine HO.out.mono ?_; rintro e w5 ⟨vo, rfl, hR5, hT5⟩; obtain ⟨A2, c2, rfl, _, _⟩ := Kd.R_reads hR5; have HR5 := Lib.hid hR5; have HT5 := Lib.hid hT5; have b5 := hT5.blk (fun e => e) HR.out.b; have k2 := bcell b5 2; have k3 := bcell b5 3; have f2 := bfroz b5 2; have f3 := bfroz b5 3; have b6 := bset b5 2 (.int .i64 cm); have k6 := bcell b6 3; have f6 := bfroz b6 3; simp only [List.setIfInBounds_toArray, List.set_cons_zero, List.set_cons_succ, List.getElem?_toArray, List.getElem?_cons_succ, List.getElem?_cons_zero] at k2 k3 k6; clear hR5 hT5 b5 b6)
        have b5 := HT5.out.blk (fun e => e) HR.out.b
        have b6 := bset (bset b5 2 (.int .i64 cm)) 3 (.slice A2 (openL (runS budget pages.toNat ops ops.length)).length c2)
        have hne : ∀ x y, w.heap.size ≠ (⟨bx, x, y⟩ : Addr).block := fun x y e => by have := HB2.out; simp only at e; omega
        have r6 := set_other (set_other (HT5.out.blk (fun e => e) HR.out.r) (hne 2 none) (.int .i64 cm)) (hne 3 none) (.slice A2 (openL (runS budget pages.toNat ops ops.length)).length c2)
        have HE := Lib.hid (fun a0 a1 a2 a3 => rn_end (cm := cm) (a0 := a0) (a1 := a1) (a2 := a2) (a3 := a3) HR.out HT5.out HR5.out)
        obtain ⟨W7, hw7⟩ : ∃ x, ((w5.setCell ⟨bx, 2, none⟩ (.int .i64 cm)).setCell ⟨bx, 3, none⟩ (.slice A2 (openL (runS budget pages.toNat ops ops.length)).length c2)) = x := ⟨_, rfl⟩
        rw [hw7] at b6 r6 HE ⊢
        have q0 := bcell b6 0
        have q1 := bcell b6 1
        have q2 := bcell b6 2
        have q3 := bcell b6 3
        have s0 := bcell r6 0
        have s1 := bcell r6 1
        have s2 := bcell r6 2
        have s3 := bcell r6 3
        have z0 := bfroz r6 0
        have z1 := bfroz r6 1
        have z2 := bfroz r6 2
        have z3 := bfroz r6 3
        simp only [List.setIfInBounds_toArray, List.set_cons_zero, List.set_cons_succ, List.getElem?_toArray, List.getElem?_cons_succ, List.getElem?_cons_zero] at q0 q1 q2 q3 s0 s1 s2 s3
        have R6 := Lib.hid r6
        clear b5 b6 hne hw7 k2 k3 k6 f2 f3 f6 r6 hlr k0
        go_wp2
        rw [HCM.out]
        refine bodyPost_ret (v := .agg #[.bool true, .slice A1 ops.length c1, .int .i64 cm, .slice A2 (openL (runS budget pages.toNat ops ops.length)).length c2]) ?_ rfl (HE.out _ _ _ _)
        have h3 := bset (bset (bset (bset R6.out 0 (.bool true)) 1 (.slice A1 ops.length c1)) 2 (.int .i64 cm)) 3 (.slice A2 (openL (runS budget pages.toNat ops ops.length)).length c2)
        have t0 := bcell h3 0
        have t1 := bcell h3 1
        have t2 := bcell h3 2
        have t3 := bcell h3 3
        simp only [List.setIfInBounds_toArray, List.set_cons_zero, List.set_cons_succ, List.getElem?_toArray, List.getElem?_cons_succ, List.getElem?_cons_zero] at t0 t1 t2 t3
        simp [results, Try.results23, go_sem, t0, t1, t2, t3]
end Go.Proofs.Ytklobepkihdbkaa.SpR
