/- The reference's address space in memory. -/
import Derived.Test.YtklobepkihdbkaaSpQ
import Derived.Deep.DeepCutAuto
import Derived.Deep.CutBlock
import Derived.Deep.RegionHeld3
import Derived.RegionTactic
import Derived.ChangeAlike
import Derived.BigRegion
import Derived.IntWalk
import Derived.Deep.RegionLaw
import Derived.Deep.DeepFit
namespace Go.Proofs.Ytklobepkihdbkaa.SsR
open Go.RowKit Go.Proofs.YtklobepkihdbkaaW.PrintWords Mem Sp SpI SpP SpQ
set_option linter.unusedVariables false
set_option linter.unusedSimpArgs false
def rowB (bs : List Int) : Array Value := (bs.map (Value.int .u8)).toArray
theorem rowB_at {bs : List Int} {i : Nat} (hi : i < bs.length) : (rowB bs)[i]? = some (.int .u8 (bs.getD i 0)) := by
  simp [rowB, List.getD_eq_getElem?_getD, List.getElem?_eq_getElem hi]
theorem rowB_set (bs : List Int) (i : Nat) (v : Int) : (rowB bs).setIfInBounds i (.int .u8 v) = rowB (bs.set i v) := by
  simp only [rowB, List.setIfInBounds_toArray, List.map_set]
def onV (x : Pg) : Value := .bool x.isSome
def opV (x : Pg) : Value := .bool (opened x)
def dtV (x : Pg) (b : Nat) : Value := match x with
  | none => .slice none 0 0
  | some _ => .slice (some ⟨b, 0, none⟩) 1024 1024
structure SSp (w : World) (F : Nat → Prop) (sb rb : Nat) (Ar : Option Addr) (cr : Nat) (db : Nat → Nat) (bud : Int) (A : Pages) : Prop where
  hs : w.heap[sb]? = some (.cells #[.slice Ar A.length cr, .int .i64 bud] 117 (0, 0))
  hr : 0 < A.length → Ar = some ⟨rb, 0, none⟩ ∧ F rb ∧ ∃ cs, w.heap[rb]? = some (.cells cs 121 (0, 0)) ∧ A.length * 3 ≤ cs.size ∧ ∀ k, k < A.length → cs[k * 3]? = some (onV (pg A k)) ∧ cs[k * 3 + 1]? = some (opV (pg A k)) ∧ cs[k * 3 + 2]? = some (dtV (pg A k) (db k))
  hd : ∀ k bs op, pg A k = some (bs, op) → bs.length = 1024 ∧ F (db k) ∧ w.heap[db k]? = some (.cells (rowB bs) 5 (0, 0))
  inj : ∀ k k', (pg A k).isSome = true → (pg A k').isSome = true → db k = db k' → k = k'
  fs : F sb
  bound : ∀ k, F k → k < w.heap.size
  len : A.length ≤ 4096
  cap : A.length ≤ cr
def SSpace (w : World) (F : Nat → Prop) (sb : Nat) (bud : Int) (A : Pages) : Prop := ∃ rb Ar cr db, SSp w F sb rb Ar cr db bud A
section
variable {w w' : World} {F G : Nat → Prop} {sb rb cr : Nat} {Ar : Option Addr} {db : Nat → Nat} {bud : Int} {A : Pages}
theorem SSp.move (h : SSp w F sb rb Ar cr db bud A) (hm : ∀ k, F k → w'.heap[k]? = w.heap[k]?) (hz : w.heap.size ≤ w'.heap.size) : SSp w' F sb rb Ar cr db bud A :=
  ⟨(hm _ h.fs).trans h.hs, fun hp => let ⟨a, b, cs, c, d⟩ := h.hr hp; ⟨a, b, cs, (hm _ b).trans c, d⟩, fun k bs op e => let ⟨a, b, c⟩ := h.hd k bs op e; ⟨a, b, (hm _ b).trans c⟩, h.inj, h.fs, fun k hk => Nat.lt_of_lt_of_le (h.bound k hk) hz, h.len, h.cap⟩
theorem SSp.turned (h : SSp w F sb rb Ar cr db bud A) (ht : Turn w w' G) (hg : ∀ k, F k → ¬ G k) : SSp w' F sb rb Ar cr db bud A := h.move (fun k hk => ht.block k (h.bound k hk) (hg k hk)) ht.size
theorem SSpace.turned (h : SSpace w F sb bud A) (ht : Turn w w' G) (hg : ∀ k, F k → ¬ G k) : SSpace w' F sb bud A := let ⟨rb, Ar, cr, db, h⟩ := h; ⟨rb, Ar, cr, db, h.turned ht hg⟩
theorem SSpace.bound (h : SSpace w F sb bud A) : ∀ k, F k → k < w.heap.size := let ⟨rb, Ar, cr, db, h⟩ := h; h.bound
/-- The three cells of a page. -/
theorem SSp.cells (h : SSp w F sb rb Ar cr db bud A) {k : Nat} (hk : k < A.length) : Ar = some ⟨rb, 0, none⟩ ∧ w.cell? ⟨rb, k * 3, none⟩ = some (onV (pg A k)) ∧ w.cell? ⟨rb, k * 3 + 1, none⟩ = some (opV (pg A k)) ∧ w.cell? ⟨rb, k * 3 + 2, none⟩ = some (dtV (pg A k) (db k)) ∧ ∀ i, w.frozen? ⟨rb, i, none⟩ = false := by
  obtain ⟨h1, _, cs, h2, h3, h4⟩ := h.hr (by omega)
  obtain ⟨a, b, c⟩ := h4 k hk
  exact ⟨h1, (bcell h2 _).trans a, (bcell h2 _).trans b, (bcell h2 _).trans c, bfroz h2⟩
theorem SSp.scells (h : SSp w F sb rb Ar cr db bud A) : w.cell? ⟨sb, 0, none⟩ = some (.slice Ar A.length cr) ∧ w.cell? ⟨sb, 1, none⟩ = some (.int .i64 bud) := ⟨bcell h.hs 0, bcell h.hs 1⟩
theorem SSp.ne (h : SSp w F sb rb Ar cr db bud A) (hp : 0 < A.length) : rb ≠ sb := by
  obtain ⟨_, _, cs, h2, _⟩ := h.hr hp
  intro e
  rw [e, h.hs] at h2
  injection h2 with h2
  injection h2 with _ h2
  exact absurd h2 (by decide)
theorem SSp.data_ne (h : SSp w F sb rb Ar cr db bud A) {k : Nat} (hk : (pg A k).isSome = true) : db k ≠ sb ∧ db k ≠ rb := by
  obtain ⟨x, hx⟩ := Option.isSome_iff_exists.1 hk
  obtain ⟨_, _, hc⟩ := h.hd k x.1 x.2 hx
  constructor
  · intro e
    rw [e, h.hs] at hc
    injection hc with hc
    injection hc with _ hc
    exact absurd hc (by decide)
  · intro e
    obtain ⟨_, _, cs, h2, _⟩ := h.hr (by have := pg_lt hk; omega)
    rw [e, h2] at hc
    injection hc with hc
    injection hc with _ hc
    exact absurd hc (by decide)
end
theorem onCount_take {A : Pages} {i : Nat} (h : i < A.length) : onCount (A.take (i + 1)) = onCount (A.take i) + (if (pg A i).isSome = true then 1 else 0) := by
  unfold onCount
  rw [List.take_succ_eq_append_getElem h, List.filter_append, List.length_append]
  have : pg A i = A[i] := by unfold pg; simp [List.getD_eq_getElem?_getD, List.getElem?_eq_getElem h]
  rw [this]
  cases A[i] <;> simp
theorem onCount_take_le (A : Pages) (i : Nat) : onCount (A.take i) ≤ i := Nat.le_trans (List.length_filter_le _ _) (by simp; omega)
set_option maxRecDepth 100000 in
set_option maxHeartbeats 2000000 in
theorem committed_is {F : Nat → Prop} {sb : Nat} {bud : Int} {A : Pages} (w : World) (h : SSpace w F sb bud A) :
    Calls Try.prog 47 #[.pointer (some ⟨sb, 0, none⟩)] w fun e w' => e = .returned (.int .i64 (onCount A)) ∧ Turn w w' (fun _ => False) := by
  obtain ⟨rb, Ar, cr, db, h⟩ := h
  obtain ⟨k0, k1⟩ := h.scells
  have hlen := h.len
  have HI := Lib.hid h
  clear h
  go_enter Try.func47, Try.ntmps47
  go_wp2_with fail
  go_loopw [3, 11] (fun n i W => ∃ j : Nat, i = .int .i64 j ∧ j ≤ A.length ∧ n = .int .i64 (onCount (A.take j) : Nat) ∧ Hid (Turn w W (fun _ => False))) (fun _ i _ => A.length - (intOf i).toNat)
  case atStart => exact ⟨0, rfl, Nat.zero_le _, rfl, Lib.hid (Turn.refl w _)⟩
  case round =>
    obtain ⟨j, rfl, hj, rfl, HT⟩ := hrel
    by_cases hlt : j < A.length
    · obtain ⟨h1, c0, c1, c2, hf⟩ := (HI.out.turned HT.out (fun _ _ e => e)).cells hlt
      subst h1
      have hoc := onCount_take hlt
      have hol := onCount_take_le A j
      clear hf k0 k1
      obtain ⟨q, hq⟩ : ∃ q, onCount (A.take j) = q := ⟨_, rfl⟩
      rw [hq] at hoc hol ⊢
      cases hp : pg A j with
      | some x =>
        obtain ⟨bs, op⟩ := x
        rw [hp] at c0 c1 c2 hoc
        simp only [Option.isSome_some, if_true] at hoc
        have HO := Lib.hid hoc
        unfold onV at c0
        unfold opV opened at c1
        unfold dtV at c2
        simp only [Option.isSome_some] at c0 c1 c2
        clear hoc hp hq
        go_wp2_with fail
        go_roundw
        case rel => exact ⟨j + 1, by go_num, by omega, by rw [HO.out]; go_num, Lib.hid (HT.out.alloc _)⟩
        case measure => simp [intOf]; omega
      | none =>
        rw [hp] at c0 c1 c2 hoc
        simp only [Option.isSome_none, Bool.false_eq_true, if_false, Nat.add_zero] at hoc
        have HO := Lib.hid hoc
        unfold onV at c0
        unfold opV opened at c1
        unfold dtV at c2
        simp only [Option.isSome_none] at c0 c1 c2
        clear hoc hp hq
        go_wp2_with fail
        go_roundw
        case rel => exact ⟨j + 1, by go_num, by omega, by rw [HO.out], Lib.hid (HT.out.alloc _)⟩
        case measure => simp [intOf]; omega
    · obtain rfl : j = A.length := by omega
      rw [List.take_length]
      go_wp2
      go_ret
      exact ⟨rfl, HT.out⟩
/-! ### reach, get, put -/
set_option maxRecDepth 100000 in
set_option maxHeartbeats 2000000 in
theorem reach_is {F : Nat → Prop} {sb : Nat} {bud : Int} {A : Pages} (w : World) (a : Nat) (h : SSpace w F sb bud A) (ha : (a : Int) ≤ 4611686018427387904) :
    Calls Try.prog 90 #[.pointer (some ⟨sb, 0, none⟩), .int .u64 a] w fun e w' => e = .returned (.bool (reach A a)) ∧ w = w' := by
  obtain ⟨rb, Ar, cr, db, h⟩ := h
  obtain ⟨k0, k1⟩ := h.scells
  have hlen := h.len
  have HI := Lib.hid h
  clear h
  unfold reach
  obtain ⟨p, hp⟩ : ∃ p, a / 1024 = p := ⟨_, rfl⟩
  rw [hp]
  have hpi : (a : Int) / 1024 = (p : Int) := by omega
  have hpp : p ≤ 4503599627370496 := by omega
  clear hp
  by_cases hlt : p < A.length
  · obtain ⟨h1, c0, c1, c2, hf⟩ := HI.out.cells hlt
    subst h1
    clear hf c2
    have hlt2 : (p : Int) < (A.length : Int) := by omega
    cases hx : pg A p with
    | none =>
      rw [hx] at c0
      unfold onV at c0
      simp only [Option.isSome_none] at c0
      unfold opened
      clear c1 hx
      go_enter Try.func90, Try.ntmps90
      go_wp2
      go_ret
      exact ⟨rfl, rfl⟩
    | some x =>
      obtain ⟨bs, op⟩ := x
      rw [hx] at c0 c1
      unfold onV at c0
      unfold opV opened at c1
      simp only [Option.isSome_some] at c0 c1
      unfold opened
      clear hx
      go_enter Try.func90, Try.ntmps90
      go_wp2
      go_ret
      exact ⟨rfl, rfl⟩
  · rw [show pg A p = none from pg_out (by omega)]
    have hlt2 : ¬ (p : Int) < (A.length : Int) := by omega
    unfold opened
    go_enter Try.func90, Try.ntmps90
    go_wp2
    go_ret
    exact ⟨rfl, rfl⟩
set_option maxRecDepth 100000 in
set_option maxHeartbeats 2000000 in
theorem get_is {F : Nat → Prop} {sb : Nat} {bud : Int} {A : Pages} {bs : List Int} {op : Bool} (w : World) (a : Nat) (h : SSpace w F sb bud A) (ha : (a : Int) ≤ 4611686018427387904) (hx : pg A (a / 1024) = some (bs, op)) :
    Calls Try.prog 81 #[.pointer (some ⟨sb, 0, none⟩), .int .u64 a] w fun e w' => e = .returned (.int .u8 (getB A a)) ∧ w = w' := by
  obtain ⟨rb, Ar, cr, db, h⟩ := h
  obtain ⟨k0, k1⟩ := h.scells
  have hlen := h.len
  have hlt := pg_lt (A := A) (k := a / 1024) (by rw [hx]; rfl)
  obtain ⟨h1, c0, c1, c2, hf⟩ := h.cells hlt
  subst h1
  obtain ⟨hl, _, hd⟩ := h.hd _ bs op hx
  have hb : getB A a = bs.getD (a % 1024) 0 := by unfold getB; rw [hx]; rfl
  have hc := bcell hd (a % 1024)
  rw [rowB_at (by omega), ← hb] at hc
  rw [hx] at c2
  unfold dtV at c2
  simp only at c2
  obtain ⟨v, hv⟩ : ∃ v, getB A a = v := ⟨_, rfl⟩
  rw [hv] at hc ⊢
  obtain ⟨p, hp⟩ : ∃ p, a / 1024 = p := ⟨_, rfl⟩
  obtain ⟨o, ho⟩ : ∃ o, a % 1024 = o := ⟨_, rfl⟩
  rw [hp] at hlt c2 hc
  rw [ho] at hc
  have hpi : (a : Int) / 1024 = (p : Int) := by omega
  have hoi : (a : Int) % 1024 = (o : Int) := by omega
  have hlt2 : (p : Int) < (A.length : Int) := by omega
  have ho2 : o < 1024 := by omega
  clear hf c0 c1 h hd hx hl hb hv hp ho
  go_enter Try.func81, Try.ntmps81
  go_wp2
  go_ret
  exact ⟨rfl, rfl⟩
theorem SSp.put1 {w : World} {F : Nat → Prop} {sb rb cr : Nat} {Ar : Option Addr} {db : Nat → Nat} {bud : Int} {A : Pages} {a : Nat} {bs : List Int} {op : Bool} (h : SSp w F sb rb Ar cr db bud A) (hx : pg A (a / 1024) = some (bs, op)) (v : Int) :
    SSp (w.setCell ⟨db (a / 1024), a % 1024, none⟩ (.int .u8 v)) F sb rb Ar cr db bud (putB A a v) := by
  have hs : (pg A (a / 1024)).isSome = true := by rw [hx]; rfl
  have hk := pg_lt hs
  obtain ⟨hn1, hn2⟩ := h.data_ne hs
  obtain ⟨hl, hF, hd⟩ := h.hd _ bs op hx
  have he : putB A a v = A.set (a / 1024) (some (bs.set (a % 1024) v, op)) := by unfold putB; rw [hx]; rfl
  have ho : ∀ i, i ≠ db (a / 1024) → (w.setCell ⟨db (a / 1024), a % 1024, none⟩ (.int .u8 v)).heap[i]? = w.heap[i]? := fun i hi => Below.heap_setCell _ _ _ _ hi
  have hsm : ∀ k, (pg (putB A a v) k).isSome = (pg A k).isSome := fun k => by
    rw [he, pg_set hk]
    by_cases e : k = a / 1024
    · rw [if_pos e, e, hs]; rfl
    · rw [if_neg e]
  have hop : ∀ k, onV (pg (putB A a v) k) = onV (pg A k) ∧ opV (pg (putB A a v) k) = opV (pg A k) ∧ dtV (pg (putB A a v) k) (db k) = dtV (pg A k) (db k) := fun k => by
    rw [he, pg_set hk]
    by_cases e : k = a / 1024
    · rw [if_pos e, e, hx]; exact ⟨rfl, rfl, rfl⟩
    · rw [if_neg e]; exact ⟨rfl, rfl, rfl⟩
  refine ⟨?_, fun hp => ?_, fun k xs o e => ?_, fun k k' e1 e2 => h.inj k k' (by rw [← hsm]; exact e1) (by rw [← hsm]; exact e2), h.fs, fun k hk => by rw [set_size]; exact h.bound k hk, by rw [putB_len]; exact h.len, by rw [putB_len]; exact h.cap⟩
  · rw [putB_len, ho _ (Ne.symm hn1)]
    exact h.hs
  · rw [putB_len] at hp ⊢
    obtain ⟨h1, h2, cs, h3, h4, h5⟩ := h.hr hp
    refine ⟨h1, h2, cs, (ho _ (Ne.symm hn2)).trans h3, h4, fun k hk => ?_⟩
    rw [(hop k).1, (hop k).2.1, (hop k).2.2]
    exact h5 k hk
  · rw [he, pg_set hk] at e
    by_cases e1 : k = a / 1024
    · rw [if_pos e1] at e
      cases e
      subst e1
      refine ⟨by rw [List.length_set]; exact hl, hF, ?_⟩
      have := bset hd (a % 1024) (.int .u8 v)
      rw [rowB_set] at this
      exact this
    · rw [if_neg e1] at e
      obtain ⟨g1, g2, g3⟩ := h.hd k xs o e
      exact ⟨g1, g2, (ho _ (fun e2 => e1 (h.inj k _ (by rw [e]; rfl) hs e2))).trans g3⟩
set_option maxRecDepth 100000 in
set_option maxHeartbeats 2000000 in
theorem put_is {F : Nat → Prop} {sb : Nat} {bud : Int} {A : Pages} {bs : List Int} {op : Bool} (w : World) (a : Nat) (v : Int) (h : SSpace w F sb bud A) (ha : (a : Int) ≤ 4611686018427387904) (hx : pg A (a / 1024) = some (bs, op)) :
    Calls Try.prog 82 #[.pointer (some ⟨sb, 0, none⟩), .int .u64 a, .int .u8 v] w fun e w' => e = .returned (.tuple #[]) ∧ SSpace w' F sb bud (putB A a v) ∧ Turn w w' F := by
  obtain ⟨rb, Ar, cr, db, h⟩ := h
  obtain ⟨k0, k1⟩ := h.scells
  have hlen := h.len
  have hlt := pg_lt (A := A) (k := a / 1024) (by rw [hx]; rfl)
  obtain ⟨h1, c0, c1, c2, hf⟩ := h.cells hlt
  subst h1
  obtain ⟨hl, hF, hd⟩ := h.hd _ bs op hx
  have hc := bcell hd (a % 1024)
  rw [rowB_at (by omega)] at hc
  have hz := bfroz hd (a % 1024)
  rw [hx] at c2
  unfold dtV at c2
  simp only at c2
  have hfin : SSpace (w.setCell ⟨db (a / 1024), a % 1024, none⟩ (.int .u8 v)) F sb bud (putB A a v) ∧ Turn w (w.setCell ⟨db (a / 1024), a % 1024, none⟩ (.int .u8 v)) F := ⟨⟨_, _, _, _, h.put1 hx v⟩, (Turn.refl w F).setCell (.inl hF) _⟩
  obtain ⟨p, hp⟩ : ∃ p, a / 1024 = p := ⟨_, rfl⟩
  obtain ⟨o, ho⟩ : ∃ o, a % 1024 = o := ⟨_, rfl⟩
  rw [hp] at hlt c2 hc hz hfin
  rw [ho] at hc hz hfin
  have hpi : (a : Int) / 1024 = (p : Int) := by omega
  have hoi : (a : Int) % 1024 = (o : Int) := by omega
  have hlt2 : (p : Int) < (A.length : Int) := by omega
  have ho2 : o < 1024 := by omega
  have HF := Lib.hid hfin
  clear hf c0 c1 h hd hx hl hp ho hfin hF
  go_enter Try.func82, Try.ntmps82
  go_wp2
  go_end0
  exact ⟨rfl, HF.out⟩
/-! ### access -/
set_option maxRecDepth 100000 in
set_option maxHeartbeats 2000000 in
theorem access_is {F : Nat → Prop} {sb : Nat} {bud : Int} {A : Pages} (w : World) (a n : Int) (h : SSpace w F sb bud A) (h0 : 0 ≤ a) (h1 : a ≤ 18446744073709551615) :
    Calls Try.prog 80 #[.pointer (some ⟨sb, 0, none⟩), .int .u64 a, .int .i64 n] w fun e w' => e = .returned (.int .i64 (accessC A a n)) ∧ w = w' := by
  have HI := Lib.hid h
  have H1 := Lib.hid h1
  clear h h1
  by_cases c1 : n < 0 ∨ 4096 < n
  · have e1 : accessC A a n = 6 := by unfold accessC; rw [if_pos c1]
    rw [e1]
    have e2 : (decide (n < 0) || decide (4096 < n)) = true := by simp only [Bool.or_eq_true, decide_eq_true_eq]; exact c1
    clear c1 e1
    go_enter Try.func80, Try.ntmps80
    go_wp2
    all_goals go_ret
    all_goals exact ⟨rfl, rfl⟩
  obtain ⟨nn, rfl⟩ := Int.eq_ofNat_of_zero_le (show 0 ≤ n by omega)
  obtain ⟨an, rfl⟩ := Int.eq_ofNat_of_zero_le h0
  have hn : nn ≤ 4096 := by omega
  clear c1 h0
  by_cases c2 : nn = 0
  · subst c2
    have e1 : accessC A an (0 : Nat) = 0 := by unfold accessC; rw [if_neg (by omega), if_pos (by omega)]
    rw [e1]
    go_enter Try.func80, Try.ntmps80
    go_wp2
    all_goals go_ret
    all_goals exact ⟨rfl, rfl⟩
  have hn1 : 1 ≤ nn := by omega
  have hne : ((nn : Int) == 0) = false := by simp; omega
  clear c2
  by_cases c3 : Pag.Ok an nn
  · have hb : an + nn ≤ 4611686018427387904 := by have := c3.2.2; omega
    obtain ⟨code, hcode⟩ : ∃ c, accessC A an nn = c := ⟨_, rfl⟩
    have hcode2 : (code = 0 ∧ ∀ i, i < nn → reach A (an + i) = true) ∨ (code = 2 ∧ ¬ ∀ i, i < nn → reach A (an + i) = true) := by
      rw [← hcode]
      unfold accessC
      rw [if_neg (by omega), if_neg (by omega)]
      simp only [Int.toNat_natCast]
      by_cases h : ∀ i, i < nn → reach A (an + i) = true
      · rw [if_pos ⟨by omega, h⟩]; exact .inl ⟨rfl, h⟩
      · rw [if_neg (fun e => h e.2)]; exact .inr ⟨rfl, h⟩
    rw [hcode]
    have H3 := Lib.hid c3
    have HC := Lib.hid hcode2
    clear c3 hcode hcode2
    go_enter Try.func80, Try.ntmps80
    go_wp2_with (go_at_call 89; refine (Pag.spec_ok an nn w (by omega) H3.out).mono ?_; rintro e w' ⟨rfl, rfl⟩)
    go_loopw [10] (fun i W => ∃ j : Nat, i = .int .i64 j ∧ j ≤ nn ∧ Hid (∀ k, k < j → reach A (an + k) = true) ∧ W = w) (fun i _ => nn - (intOf i).toNat)
    case atStart => exact ⟨0, rfl, Nat.zero_le _, Lib.hid (fun k hk => by omega), rfl⟩
    case round =>
      obtain ⟨j, rfl, hj, HA, rfl⟩ := hrel
      by_cases hlt : j < nn
      · have hq : (an : Int) + (j : Int) = ((an + j : Nat) : Int) := by omega
        have HQ := Lib.hid hq
        clear hq
        cases hr : reach A (an + j) with
        | true =>
          have HA2 : Hid (∀ k, k < j + 1 → reach A (an + k) = true) := Lib.hid (fun k hk => by
            by_cases e : k = j
            · subst e; exact hr
            · exact HA.out k (by omega))
          have HR := Lib.hid hr
          clear hr
          go_wp2_with (go_at_call 90; rw [HQ.out]; refine (reach_is wr (an + j) HI.out (by omega)).mono ?_; rintro e w' ⟨rfl, rfl⟩; rw [HR.out])
          go_roundw
          case rel => exact ⟨j + 1, by go_num, by omega, HA2, trivial⟩
          case measure => simp [intOf]; omega
        | false =>
          have hc2 : code = 2 := by
            rcases HC.out with ⟨_, h⟩ | ⟨h, _⟩
            · rw [h j hlt] at hr; cases hr
            · exact h
          subst hc2
          have HR := Lib.hid hr
          clear hr
          go_wp2_with (go_at_call 90; rw [HQ.out]; refine (reach_is wr (an + j) HI.out (by omega)).mono ?_; rintro e w' ⟨rfl, rfl⟩; rw [HR.out])
          go_ret
          exact ⟨rfl, rfl⟩
      · obtain rfl : nn = j := by omega
        have hc2 : code = 0 := by
          rcases HC.out with ⟨h, _⟩ | ⟨_, h⟩
          · exact h
          · exact absurd HA.out h
        subst hc2
        go_wp2
        go_ret
        exact ⟨rfl, rfl⟩
  · have e1 : accessC A an nn = 2 := by
      unfold accessC
      rw [if_neg (by omega), if_neg (by omega), if_neg (fun e => c3 ⟨by omega, by omega, by omega⟩)]
    rw [e1]
    have H3 := Lib.hid c3
    clear c3 e1
    go_enter Try.func80, Try.ntmps80
    go_wp2_with (go_at_call 89; refine (Pag.spec_no an nn w (by omega) H1.out H3.out).mono ?_; rintro e w' ⟨rfl, rfl⟩)
    all_goals go_ret
    all_goals exact ⟨rfl, rfl⟩
end Go.Proofs.Ytklobepkihdbkaa.SsR
/- The reference's address space: pages committed and dropped. -/
namespace Go.Proofs.Ytklobepkihdbkaa.SsM
open Go.RowKit Go.Proofs.YtklobepkihdbkaaW.PrintWords Mem Sp SpI SpP SpQ SsR
set_option linter.unusedVariables false
set_option linter.unusedSimpArgs false
theorem SSpace.drewX {w : World} {F : Nat → Prop} {sb : Nat} {bud : Int} {A : Pages} (h : SSpace w F sb bud A) : SSpace w.drew F sb bud A := h.turned (G := fun _ => False) (Turn.refl w _).drew (fun _ _ e => e)
theorem ckeep {w w1 : World} {p : Addr} {v : Value} (h : w.cell? p = some v) (ht : Turn w w1 (fun _ => False)) : w1.cell? p = some v := by
  unfold World.cell? at h ⊢
  cases hb : w.heap[p.block]? with
  | none => rw [hb] at h; cases h
  | some o => rw [ht.blk (fun e => e) hb]; rw [hb] at h; exact h
theorem info5 : (Try.prog.info? 5).map (fun i => (i.zero, i.size, i.bytes)) = some (some (.int .u8 0), 1, 1) := by kernel_rfl
theorem made_one (z : Value) (n : Nat) : madeCells #[z] n = (List.replicate n z).toArray := by
  apply Array.ext
  · simp [madeCells]
  · intro i h1 h2
    simp [madeCells, Nat.mod_one]
theorem zeros_row : rowB zeros = madeCells (Value.int .u8 0).cells 1024 := by
  rw [show (Value.int .u8 0).cells = #[Value.int .u8 0] from rfl, made_one]
  unfold rowB zeros
  rw [List.map_replicate]
theorem make_page (w : World) : (Instr.makeSlice 39 (.int .i64 1024) (.int .i64 1024)).run Try.prog w = .ok (.slice (some ⟨w.heap.size, 0, none⟩) 1024 1024) (w.alloc (.cells (rowB zeros) 5)) := by
  obtain ⟨i0, hi, hz0, hz1, hz2⟩ := info_parts info5
  have := run_make (P := Try.prog) w 39 5 i0 (.int .u8 0) Try.underlying39 hi hz0 .i64 .i64 1024 1024 (by omega) (by omega) (by rw [hz2]; omega) (by omega)
  rw [hz1] at this
  rw [zeros_row]
  exact this
/-- Three cells of a row of pages turned. -/
def Row3 (w w2 : World) (rb k : Nat) (x0 x1 x2 : Value) : Prop := ∀ cs : Array Value, w.heap[rb]? = some (.cells cs 121 (0, 0)) → k * 3 + 2 < cs.size → ∃ cs' : Array Value, w2.heap[rb]? = some (.cells cs' 121 (0, 0)) ∧ cs'.size = cs.size ∧ (∀ i, i ≠ k * 3 → i ≠ k * 3 + 1 → i ≠ k * 3 + 2 → cs'[i]? = cs[i]?) ∧ cs'[k * 3]? = some x0 ∧ cs'[k * 3 + 1]? = some x1 ∧ cs'[k * 3 + 2]? = some x2
theorem row3_set {w w1 : World} {rb k : Nat} (x0 x1 x2 : Value) (h : ∀ o, w.heap[rb]? = some o → w1.heap[rb]? = some o) : Row3 w (((w1.setCell ⟨rb, k * 3, none⟩ x0).setCell ⟨rb, k * 3 + 1, none⟩ x1).setCell ⟨rb, k * 3 + 2, none⟩ x2) rb k x0 x1 x2 := by
  intro cs hc hz
  refine ⟨_, bset (bset (bset (h _ hc) _ _) _ _) _ _, by simp, fun i h0 h1 h2 => ?_, ?_, ?_, ?_⟩
  · simp [Array.getElem?_setIfInBounds, Ne.symm h0, Ne.symm h1, Ne.symm h2]
  · simp [Array.getElem?_setIfInBounds, show k * 3 < cs.size by omega]
  · simp [Array.getElem?_setIfInBounds, show k * 3 + 1 < cs.size by omega]
  · simp [Array.getElem?_setIfInBounds, hz]
theorem SSp.page {w w2 : World} {F : Nat → Prop} {sb rb cr : Nat} {Ar : Option Addr} {db : Nat → Nat} {bud : Int} {A : Pages} (h : SSp w F sb rb Ar cr db bud A) {k : Nat} (hk : k < A.length) (y : Pg) (b : Nat)
    (hrow : Row3 w w2 rb k (onV y) (opV y) (dtV y b)) (hoth : ∀ i, i < w.heap.size → i ≠ rb → w2.heap[i]? = w.heap[i]?) (hz : w.heap.size ≤ w2.heap.size)
    (hy : ∀ bs op, y = some (bs, op) → bs.length = 1024 ∧ w2.heap[b]? = some (.cells (rowB bs) 5 (0, 0)) ∧ ∀ k', k' ≠ k → (pg A k').isSome = true → db k' ≠ b) :
    SSp w2 (fun i => F i ∨ (y.isSome = true ∧ i = b)) sb rb Ar cr (fun i => if i = k then b else db i) bud (A.set k y) := by
  have hp : 0 < A.length := by omega
  obtain ⟨h1, h2, cs, h3, h4, h5⟩ := h.hr hp
  obtain ⟨cs', g1, g2, g3, g4, g5, g6⟩ := hrow cs h3 (by omega)
  have hne := h.ne hp
  refine ⟨?_, fun _ => ⟨h1, .inl h2, cs', g1, by rw [List.length_set]; omega, fun i hi => ?_⟩, fun i bs op e => ?_, fun i i' e1 e2 e3 => ?_, .inl h.fs, fun i hi => ?_, by rw [List.length_set]; exact h.len, by rw [List.length_set]; exact h.cap⟩
  · rw [List.length_set, hoth _ (h.bound _ h.fs) (Ne.symm hne)]
    exact h.hs
  · rw [List.length_set] at hi
    rw [pg_set hk]
    by_cases e : i = k
    · subst e
      rw [if_pos rfl, if_pos rfl]
      exact ⟨g4, g5, g6⟩
    · rw [if_neg e, if_neg e, g3 _ (by omega) (by omega) (by omega), g3 _ (by omega) (by omega) (by omega), g3 _ (by omega) (by omega) (by omega)]
      exact h5 i hi
  · rw [pg_set hk] at e
    by_cases e1 : i = k
    · rw [if_pos e1] at e
      obtain ⟨q1, q2, q3⟩ := hy bs op e
      rw [if_pos e1]
      exact ⟨q1, .inr ⟨by rw [e]; rfl, rfl⟩, q2⟩
    · rw [if_neg e1] at e
      obtain ⟨q1, q2, q3⟩ := h.hd i bs op e
      rw [if_neg e1]
      exact ⟨q1, .inl q2, (hoth _ (h.bound _ q2) (h.data_ne (by rw [e]; rfl)).2).trans q3⟩
  · rw [pg_set hk] at e1 e2
    by_cases a1 : i = k
    · by_cases a2 : i' = k
      · omega
      · rw [if_pos a1] at e1
        simp only [if_pos a1, if_neg a2] at e3 e2
        obtain ⟨x, hx⟩ := Option.isSome_iff_exists.1 e1
        exact absurd e3.symm ((hy x.1 x.2 hx).2.2 i' a2 e2)
    · by_cases a2 : i' = k
      · rw [if_pos a2] at e2
        simp only [if_neg a1, if_pos a2] at e3 e1
        obtain ⟨x, hx⟩ := Option.isSome_iff_exists.1 e2
        exact absurd e3 ((hy x.1 x.2 hx).2.2 i a1 e1)
      · rw [if_neg a1] at e1
        rw [if_neg a2] at e2
        simp only [if_neg a1, if_neg a2] at e3
        exact h.inj i i' e1 e2 e3
  · rcases hi with hi | ⟨hi, rfl⟩
    · exact Nat.lt_of_lt_of_le (h.bound i hi) hz
    · obtain ⟨x, hx⟩ := Option.isSome_iff_exists.1 hi
      exact lt_of (hy x.1 x.2 hx).2.1
theorem SSp.on1 {w : World} {G : Nat → Prop} {sb rb cr : Nat} {Ar : Option Addr} {db : Nat → Nat} {bud : Int} {B : Pages} (h : SSp w G sb rb Ar cr db bud B) {i : Nat} (hk : i < B.length) :
    SSp ((((w.alloc (.cells (rowB zeros) 5)).setCell ⟨rb, i * 3, none⟩ (.bool true)).setCell ⟨rb, i * 3 + 1, none⟩ (.bool true)).setCell ⟨rb, i * 3 + 2, none⟩ (.slice (some ⟨w.heap.size, 0, none⟩) 1024 1024)).drew (fun k => G k ∨ ((some (zeros, true) : Pg).isSome = true ∧ k = w.heap.size)) sb rb Ar cr (fun k => if k = i then w.heap.size else db k) bud (B.set i (some (zeros, true))) := by
  have hr := (h.hr (by omega)).2.1
  have hrl := h.bound _ hr
  have hp := SSp.page h hk (some (zeros, true)) w.heap.size (row3_set (w1 := w.alloc (.cells (rowB zeros) 5)) (.bool true) (.bool true) (.slice (some ⟨w.heap.size, 0, none⟩) 1024 1024) (fun o ho => alloc_old ho _))
    (fun j hj hn => by rw [Below.heap_setCell _ _ _ _ hn, Below.heap_setCell _ _ _ _ hn, Below.heap_setCell _ _ _ _ hn]; exact (((Turn.refl w (fun _ => False)).alloc _).block j hj (fun e => e)))
    (by simp only [set_size]; simp)
    (fun bs op e => by
      cases e
      refine ⟨List.length_replicate, ?_, fun k' _ hs e => ?_⟩
      · have hn : w.heap.size ≠ rb := by omega
        rw [Below.heap_setCell _ _ _ _ hn, Below.heap_setCell _ _ _ _ hn, Below.heap_setCell _ _ _ _ hn]
        exact alloc_new _ _
      · obtain ⟨x, hx⟩ := Option.isSome_iff_exists.1 hs
        have := h.bound _ (h.hd k' x.1 x.2 hx).2.1
        omega)
  exact hp.move (fun _ _ => rfl) (Nat.le_refl _)
set_option maxRecDepth 100000 in
set_option maxHeartbeats 2000000 in
theorem commit_is {F : Nat → Prop} {sb : Nat} {bud : Int} {A : Pages} (w : World) (f c : Nat) (h : SSpace w F sb bud A) (hfc : f + c ≤ A.length) :
    Calls Try.prog 64 #[.pointer (some ⟨sb, 0, none⟩), .int .i64 f, .int .i64 c] w fun e w' => ∃ b G, e = .returned (.bool b) ∧ b = !decide (bud < (onCount A : Int) + c) ∧ SSpace w' G sb bud (if b = true then setR A f c (fun _ => some (zeros, true)) else A) ∧ (∀ k, G k → F k ∨ w.heap.size ≤ k) ∧ Turn w w' F := by
  have HW := Lib.hid h
  obtain ⟨rb, Ar, cr, db, h⟩ := h
  obtain ⟨k0, k1⟩ := h.scells
  have hlen := h.len
  have hoc : onCount A ≤ A.length := List.length_filter_le _ _
  have HI := Lib.hid h
  clear h
  have HWR : Hid (IntKind.i64.wrap ((onCount A : Int) + (c : Int)) = (onCount A : Int) + (c : Int)) := Lib.hid (IntWalk.i64_in _ (by omega))
  go_enter Try.func64, Try.ntmps64
  go_upto_region 1 with fail
  go_region_held3 (fun w' => w'.cell? ⟨sb, 1, none⟩ = some (.int .i64 bud)) (first | go_keep | (exact ckeep (w := w.drew) k1 hT)) (first | (go_at_call 47; refine (committed_is _ (SSpace.drewX HW.out)).mono ?_; rintro e w1 ⟨rfl, hT⟩))
  have hT1 : Turn w w1 (fun _ => False) := ((Turn.refl w _).drew).trans hT (fun _ e => e.elim)
  have HT := Lib.hid (hT1.mono (G := F) (fun _ e => e.elim))
  have HI1 := Lib.hid (HI.out.turned hT1 (fun _ _ e => e))
  have HFB : Hid (∀ k, F k → F k ∨ w.heap.size ≤ k) := Lib.hid (fun k hk => .inl hk)
  rw [HWR.out]
  clear hT hT1 HI HW k0 k1
  cases hb : decide (bud < (onCount A : Int) + c) with
  | true =>
    go_wp2
    go_ret
    exact ⟨false, F, rfl, (congrArg Bool.not hb).symm, ⟨_, _, _, _, by rw [if_neg (by simp)]; exact HI1.out⟩, HFB.out, HT.out⟩
  | false =>
    have HI0 : Hid (SSp w1 F sb rb Ar cr db bud (setR A f 0 (fun _ => some (zeros, true)))) := by rw [setR_zero]; exact HI1
    clear HI1
    go_wp2_with fail
    go_loopw [7] (fun i W => ∃ j : Nat, i = .int .i64 ((f + j : Nat) : Int) ∧ j ≤ c ∧ ∃ G db, Hid (SSp W G sb rb Ar cr db bud (setR A f j (fun _ => some (zeros, true)))) ∧ Hid (∀ k, G k → F k ∨ w.heap.size ≤ k) ∧ Hid (Turn w W F)) (fun i _ => f + c - (intOf i).toNat)
    case atStart => exact ⟨0, rfl, Nat.zero_le _, F, db, HI0, HFB, HT⟩
    case round =>
      clear HI0 HT
      obtain ⟨j, rfl, hj, G, db, HI, HG, HT⟩ := hrel
      obtain ⟨i, hi⟩ : ∃ i, f + j = i := ⟨_, rfl⟩
      rw [hi]
      by_cases hlt : j < c
      · have hlt2 : i < f + c := by omega
        have hnx := setR_succ (g := fun _ => some (zeros, true)) (show f + j < A.length by omega)
        rw [hi] at hnx
        have hil : i < (setR A f j (fun _ => some (zeros, true))).length := by rw [setR_len]; omega
        have HNX := Lib.hid hnx
        obtain ⟨B, hB⟩ : ∃ B, setR A f j (fun _ => some (zeros, true)) = B := ⟨_, rfl⟩
        rw [hB] at HI HNX hil
        have hol : B.length ≤ 4096 := HI.out.len
        obtain ⟨h1, c0, c1, c2, hf⟩ := HI.out.cells hil
        obtain ⟨k0, k1⟩ := HI.out.scells
        subst h1
        have HIX := Lib.hid hi
        have HF := Lib.hid hf
        have f0 := hf (i * 3)
        have f1 := hf (i * 3 + 1)
        have f2 := hf (i * 3 + 2)
        have hmk := make_page
        have hz2 : ¬ rb = wr.heap.size := fun e => by have := (HI.out.hr (by omega)).2.1; have := HI.out.bound _ this; omega
        have hz3 : ¬ sb = wr.heap.size := fun e => by have := HI.out.bound _ HI.out.fs; omega
        have hA2 := HI.out.turned (G := fun _ => False) ((Turn.refl wr _).alloc (.cells (rowB zeros) 5)) (fun _ _ e => e)
        obtain ⟨_, a0, a1, a2, af⟩ := hA2.cells hil
        obtain ⟨b0, b1⟩ := hA2.scells
        have af0 := af (i * 3)
        have af1 := af (i * 3 + 1)
        have af2 := af (i * 3 + 2)
        clear hnx hi hB hf af hA2
        go_upto_region 6 with fail
        go_region
        have HI5 := Lib.hid (SSp.on1 HI.out hil)
        rw [← HNX.out] at HI5
        have HG5 : Hid (∀ k, (G k ∨ ((some (zeros, true) : Pg).isSome = true ∧ k = wr.heap.size)) → F k ∨ w.heap.size ≤ k) := Lib.hid (fun k hk => hk.elim (HG.out k) (fun e => .inr (by have := e.2; have := HT.out.size; omega)))
        have hrF := HG.out rb (HI.out.hr (by omega)).2.1
        have HT5 := Lib.hid (((((HT.out.alloc (.cells (rowB zeros) 5)).setCell (p := ⟨rb, i * 3, none⟩) hrF (.bool true)).setCell (p := ⟨rb, i * 3 + 1, none⟩) hrF (.bool true)).setCell (p := ⟨rb, i * 3 + 2, none⟩) hrF (.slice (some ⟨wr.heap.size, 0, none⟩) 1024 1024)).drew)
        obtain ⟨w6, hw6⟩ : ∃ x, ((((wr.alloc (.cells (rowB zeros) 5)).setCell ⟨rb, i * 3, none⟩ (.bool true)).setCell ⟨rb, i * 3 + 1, none⟩ (.bool true)).setCell ⟨rb, i * 3 + 2, none⟩ (.slice (some ⟨wr.heap.size, 0, none⟩) 1024 1024)).drew = x := ⟨_, rfl⟩
        rw [hw6] at HI5 HT5 ⊢
        clear hw6 a0 a1 a2 b0 b1 af0 af1 af2 f0 f1 f2 hmk c0 c1 c2 k0 k1 hrF hz2 hz3
        go_wp2_with fail
        go_roundw
        case rel => exact ⟨j + 1, by rw [show f + (j + 1) = i + 1 by have := HIX.out; omega]; go_num, by omega, _, _, HI5, HG5, HT5⟩
        case measure => simp [intOf]; omega
      · obtain rfl : c = j := by omega
        have hlt2 : ¬ i < f + c := by omega
        clear hi
        go_wp2
        go_ret
        exact ⟨true, G, rfl, (congrArg Bool.not hb).symm, ⟨_, _, _, _, by rw [if_pos rfl]; exact HI.out⟩, HG.out, HT.out⟩
end Go.Proofs.Ytklobepkihdbkaa.SsM
/- The reference's address space: drop, load, store, the open pages. -/
namespace Go.Proofs.Ytklobepkihdbkaa.SsD
open Go.RowKit Go.Proofs.YtklobepkihdbkaaW.PrintWords Mem Sp SpI SpP SpQ SsR SsM
set_option linter.unusedVariables false
set_option linter.unusedSimpArgs false
theorem SSp.widen {w : World} {F G : Nat → Prop} {sb rb cr : Nat} {Ar : Option Addr} {db : Nat → Nat} {bud : Int} {A : Pages} (h : SSp w F sb rb Ar cr db bud A) (hg : ∀ k, F k → G k) (hb : ∀ k, G k → k < w.heap.size) : SSp w G sb rb Ar cr db bud A :=
  ⟨h.hs, fun hp => let ⟨a, b, c⟩ := h.hr hp; ⟨a, hg _ b, c⟩, fun k bs op e => let ⟨a, b, c⟩ := h.hd k bs op e; ⟨a, hg _ b, c⟩, h.inj, hg _ h.fs, hb, h.len, h.cap⟩
theorem SSp.off1 {w : World} {F : Nat → Prop} {sb rb cr : Nat} {Ar : Option Addr} {db : Nat → Nat} {bud : Int} {A : Pages} (h : SSp w F sb rb Ar cr db bud A) {k : Nat} (hk : k < A.length) :
    SSp (((w.setCell ⟨rb, k * 3, none⟩ (.bool false)).setCell ⟨rb, k * 3 + 1, none⟩ (.bool false)).setCell ⟨rb, k * 3 + 2, none⟩ (.slice none 0 0)) F sb rb Ar cr (fun i => if i = k then 0 else db i) bud (A.set k none) := by
  have hp := SSp.page h hk none 0 (row3_set (w1 := w) (.bool false) (.bool false) (.slice none 0 0) (fun o ho => ho))
    (fun j hj hn => by rw [Below.heap_setCell _ _ _ _ hn, Below.heap_setCell _ _ _ _ hn, Below.heap_setCell _ _ _ _ hn])
    (by simp only [set_size]; exact Nat.le_refl _) (fun bs op e => by cases e)
  exact SSp.widen hp (fun k hk => hk.elim id (fun e => by cases e.1)) (fun k hk => by simp only [set_size]; exact h.bound k hk)
set_option maxRecDepth 100000 in
set_option maxHeartbeats 2000000 in
theorem drop_is {F : Nat → Prop} {sb : Nat} {bud : Int} {A : Pages} (w : World) (f c : Nat) (h : SSpace w F sb bud A) (hfc : f + c ≤ A.length) :
    Calls Try.prog 65 #[.pointer (some ⟨sb, 0, none⟩), .int .i64 f, .int .i64 c] w fun e w' => e = .returned (.tuple #[]) ∧ SSpace w' F sb bud (setR A f c (fun _ => none)) ∧ Turn w w' F := by
  obtain ⟨rb, Ar, cr, db, h⟩ := h
  have hlen := h.len
  have HI0 : Hid (SSp w F sb rb Ar cr db bud (setR A f 0 (fun _ => none))) := by rw [setR_zero]; exact Lib.hid h
  clear h
  go_enter Try.func65, Try.ntmps65
  go_wp2_with fail
  go_loopw [6] (fun i W => ∃ j : Nat, i = .int .i64 ((f + j : Nat) : Int) ∧ j ≤ c ∧ ∃ db, Hid (SSp W F sb rb Ar cr db bud (setR A f j (fun _ => none))) ∧ Hid (Turn w W F)) (fun i _ => f + c - (intOf i).toNat)
  case atStart => exact ⟨0, rfl, Nat.zero_le _, db, HI0, Lib.hid (Turn.refl _ _)⟩
  case round =>
    clear HI0
    obtain ⟨j, rfl, hj, db, HI, HT⟩ := hrel
    obtain ⟨i, hi⟩ : ∃ i, f + j = i := ⟨_, rfl⟩
    rw [hi]
    by_cases hlt : j < c
    · have hlt2 : i < f + c := by omega
      have hnx := setR_succ (g := fun _ => none) (show f + j < A.length by omega)
      rw [hi] at hnx
      have hil : i < (setR A f j (fun _ => none)).length := by rw [setR_len]; omega
      have HNX := Lib.hid hnx
      obtain ⟨B, hB⟩ : ∃ B, setR A f j (fun _ => none) = B := ⟨_, rfl⟩
      rw [hB] at HI HNX hil
      have hol : B.length ≤ 4096 := HI.out.len
      obtain ⟨h1, c0, c1, c2, hf⟩ := HI.out.cells hil
      obtain ⟨k0, k1⟩ := HI.out.scells
      subst h1
      have HIX := Lib.hid hi
      have f0 := hf (i * 3)
      have f1 := hf (i * 3 + 1)
      have f2 := hf (i * 3 + 2)
      have hrF := (HI.out.hr (by omega)).2.1
      have HI5 := Lib.hid (SSp.off1 HI.out hil)
      rw [← HNX.out] at HI5
      have HT5 := Lib.hid (((HT.out.setCell (p := ⟨rb, i * 3, none⟩) (.inl hrF) (.bool false)).setCell (p := ⟨rb, i * 3 + 1, none⟩) (.inl hrF) (.bool false)).setCell (p := ⟨rb, i * 3 + 2, none⟩) (.inl hrF) (.slice none 0 0))
      clear hnx hi hB hf hrF
      go_wp2_with fail
      go_roundw
      case rel => exact ⟨j + 1, by rw [show f + (j + 1) = i + 1 by have := HIX.out; omega]; go_num, by omega, _, HI5, HT5⟩
      case measure => simp [intOf]; omega
    · obtain rfl : c = j := by omega
      have hlt2 : ¬ i < f + c := by omega
      clear hi
      go_wp2
      go_end0
      exact ⟨rfl, ⟨_, _, _, _, HI.out⟩, HT.out⟩
/-! ### load -/
def ldp (A : Pages) (a j : Nat) : List Int := (List.range j).map fun k => getB A (a + k)
theorem ldp_succ (A : Pages) (a j : Nat) : ldp A a (j + 1) = ldp A a j ++ [getB A (a + j)] := by simp [ldp, List.range_succ]
theorem ldp_len (A : Pages) (a j : Nat) : (ldp A a j).length = j := by simp [ldp]
theorem ldp_is (A : Pages) (a n : Nat) : loadD A a n = ldp A a n := by simp [loadD, ldp]
def SlPost (w : World) (code : Int) (data : List Int) (e : Ending) (w' : World) : Prop :=
  ∃ v, e = .returned (.agg #[.int .i64 code, v]) ∧ (Kd.int .u8).R 5 w' w.heap.size (fun _ => True) v data ∧ Turn w w' (fun _ => False)
theorem reach_some {B : Pages} {q : Nat} (h : reach B q = true) : ∃ bs, pg B (q / 1024) = some (bs, true) := by
  unfold reach at h
  cases hh : pg B (q / 1024) with
  | none => rw [hh] at h; cases h
  | some y => obtain ⟨y1, y2⟩ := y; rw [hh] at h; exact ⟨y1, by rw [show y2 = true from h]⟩
/-- The box of the answer and its row while bytes are read. -/
def LdI (wb : World) (code : Int) (xs : List Int) (vd : Value) (W : World) : Prop :=
  W.heap[wb.heap.size]? = some (.cells #[.int .i64 code, vd] 54 (0, 0)) ∧ (Kd.int .u8).R 5 W wb.heap.size (fun k => k ≠ wb.heap.size) vd xs ∧ Turn wb W (fun _ => False)
theorem LdI.drewX {wb W : World} {code : Int} {xs : List Int} {vd : Value} (h : LdI wb code xs vd W) : LdI wb code xs vd W.drew := ⟨h.1, Kd.R_drew h.2.1, h.2.2.drew⟩
theorem ldi_new (wb : World) (code : Int) : LdI wb code [] (.slice none 0 0) (wb.alloc (.cells #[.int .i64 code, .slice none 0 0] 54)) :=
  ⟨alloc_new _ _, Kd.R_nil _ _ _ _ _, (Turn.refl _ _).alloc _⟩
theorem ldi_app {wb W W1 : World} {code : Int} {xs ys : List Int} {vd v1 : Value} (h : LdI wb code xs vd W) (hR : (Kd.int .u8).R 5 W1 wb.heap.size (fun k => k ≠ wb.heap.size) v1 ys) (hg : W.grownBy W1 vd.ownBlock) :
    W1.heap[wb.heap.size]? = some (.cells #[.int .i64 code, vd] 54 (0, 0)) ∧ LdI wb code ys v1 (W1.setCell ⟨wb.heap.size, 1, none⟩ v1) := by
  obtain ⟨h1, h2, h3⟩ := h
  have hb : W1.heap[wb.heap.size]? = some (.cells #[.int .i64 code, vd] 54 (0, 0)) := (hg.block _ (lt_of h1) (fun e => (h2.1 _ e.symm) rfl)).trans h1
  have hob : ∀ b, vd.ownBlock = some b → False ∨ wb.heap.size ≤ b := fun b e => .inr ((Kd.R_bound h2).1 b e).2.1
  exact ⟨hb, bset hb 1 _, Kd.R_far hR (p := ⟨wb.heap.size, 1, none⟩) (fun k hk => hk) _, (h3.grown hg hob).setCell (p := ⟨wb.heap.size, 1, none⟩) (.inr (Nat.le_refl _)) _⟩
theorem load_fin {w wb W : World} {code : Int} {xs : List Int} {vd : Value} (hT : Turn w wb (fun _ => False)) (hz : wb.heap.size = w.heap.size + 1) (h : LdI wb code xs vd W) {c0 v0 : Value} :
    SlPost w code xs (.returned (.agg #[.int .i64 code, vd])) ((W.setCell ⟨w.heap.size, 0, none⟩ c0).setCell ⟨w.heap.size, 1, none⟩ v0) := by
  obtain ⟨h1, h2, h3⟩ := h
  refine ⟨_, rfl, ?_, ((hT.trans h3 (fun k e => e.elim)).setCell (p := ⟨w.heap.size, 0, none⟩) (.inr (Nat.le_refl _)) _).setCell (p := ⟨w.heap.size, 1, none⟩) (.inr (Nat.le_refl _)) _⟩
  have hn : ∀ k, wb.heap.size ≤ k → k ≠ w.heap.size := fun k hk => by omega
  have h4 := Kd.R_mono (ok' := fun k => wb.heap.size ≤ k) (Kd.R_bound h2) (fun k hk => hk.2.1)
  exact Kd.R_mono (Kd.R_lower (Kd.R_far (Kd.R_far h4 (p := ⟨w.heap.size, 0, none⟩) hn _) (p := ⟨w.heap.size, 1, none⟩) hn _) (by omega)) (fun _ _ => trivial)
set_option maxRecDepth 100000 in
set_option maxHeartbeats 4000000 in
theorem load_is {F : Nat → Prop} {sb : Nat} {bud : Int} {A : Pages} (w : World) (a n : Int) (h : SSpace w F sb bud A) (ha : 0 ≤ a) (hA : a ≤ 18446744073709551615) :
    Calls Try.prog 62 #[.pointer (some ⟨sb, 0, none⟩), .int .u64 a, .int .i64 n] w (SlPost w (accessC A a n) (if accessC A a n = 0 then loadD A a n else [])) := by
  have HW := Lib.hid h
  have HA := Lib.hid hA
  clear h hA
  obtain ⟨wb, hwb⟩ : ∃ x, w.alloc (.cells #[.int .i64 0, .slice none 0 0] 54) = x := ⟨_, rfl⟩
  have HWB := Lib.hid hwb
  have hTb : Turn w (w.alloc (.cells #[.int .i64 0, .slice none 0 0] 54)) (fun _ => False) := (Turn.refl w _).alloc _
  rw [hwb] at hTb
  have HTB := Lib.hid hTb
  have HIB := Lib.hid (HW.out.turned hTb (fun _ _ e => e))
  have hzb : wb.heap.size = w.heap.size + 1 := by rw [← hwb]; simp
  have HB0 := Lib.hid (show wb.heap[w.heap.size]? = some (.cells #[.int .i64 0, .slice none 0 0] 54 (0, 0)) by rw [← hwb]; exact alloc_new w _)
  have HZB := Lib.hid hzb
  clear hwb hTb hzb
  by_cases c1 : accessC A a n = 0
  · obtain ⟨hn, hadd, hre⟩ : n ≤ 4096 ∧ (1 ≤ n → a + n ≤ 4611686018427387904) ∧ ∀ i : Nat, (i : Int) < n → reach A (a.toNat + i) = true := by
      obtain ⟨nn, rfl⟩ := Int.eq_ofNat_of_zero_le (show 0 ≤ n by unfold accessC at c1; split at c1 <;> omega)
      obtain ⟨an, rfl⟩ := Int.eq_ofNat_of_zero_le ha
      obtain ⟨h1, h2, h3⟩ := accessC_ok c1
      exact ⟨by omega, fun h => h2 (by omega), fun i hi => by rw [Int.toNat_natCast]; exact h3 i (by omega)⟩
    obtain ⟨nn, rfl⟩ := Int.eq_ofNat_of_zero_le (show 0 ≤ n by unfold accessC at c1; split at c1 <;> omega)
    obtain ⟨an, rfl⟩ := Int.eq_ofNat_of_zero_le ha
    rw [if_pos c1, c1]
    rw [Int.toNat_natCast] at hre
    have hn2 : nn ≤ 4096 := by omega
    have HC := Lib.hid c1
    have HRE := Lib.hid hre
    have HAD := Lib.hid hadd
    clear c1 hn hadd hre
    go_enter Try.func62, Try.ntmps62
    go_wp2_with (go_at_call 80; rw [HWB.out]; refine (access_is wb an nn HIB.out ha HA.out).mono ?_; rintro e w1 ⟨rfl, rfl⟩; rw [HC.out])
    have HL0 := Lib.hid (ldi_new wb 0)
    obtain ⟨w2, hw2⟩ : ∃ x, wb.alloc (.cells #[.int .i64 0, .slice none 0 0] 54) = x := ⟨_, rfl⟩
    rw [hw2] at HL0 ⊢
    clear hw2
    go_loopw [8] (fun i W => ∃ j : Nat, i = .int .i64 j ∧ j ≤ nn ∧ ∃ vd, Hid (LdI wb 0 (ldp A an j) vd W)) (fun i _ => nn - (intOf i).toNat)
    case atStart => exact ⟨0, rfl, Nat.zero_le _, _, HL0⟩
    case round =>
      clear HL0
      obtain ⟨j, rfl, hj, vd, HL⟩ := hrel
      have k0 := bcell HL.out.1 0
      have k1 := bcell HL.out.1 1
      simp only [List.getElem?_toArray, List.getElem?_cons_succ, List.getElem?_cons_zero] at k0 k1
      by_cases hlt : j < nn
      · obtain ⟨q, hq⟩ : ∃ q, an + j = q := ⟨_, rfl⟩
        have hqi : (an : Int) + (j : Int) = (q : Int) := by omega
        have hqu : IntKind.u64.wrap (q : Int) = (q : Int) := by have := HAD.out (by omega); rw [IntKind.wrap_u64]; omega
        have hju : IntKind.u64.wrap (j : Int) = (j : Int) := by rw [IntKind.wrap_u64]; omega
        have had2 : (q : Int) ≤ 4611686018427387904 := by have := HAD.out (by omega); omega
        obtain ⟨bs, hx⟩ := reach_some (HRE.out j (by omega))
        rw [hq] at hx
        have hns := ldp_succ A an j
        rw [hq] at hns
        have hll := ldp_len A an j
        have HNS := Lib.hid hns
        have HX := Lib.hid hx
        have HS := Lib.hid (HIB.out.turned HL.out.2.2 (fun _ _ e => e))
        have hwz : wb.heap.size < wr.heap.size := lt_of HL.out.1
        have HBl := Lib.hid (HL.out.2.2.below (Nat.le_refl _) (fun k e => e.elim))
        clear hns hx hq
        go_upto_region 5 with fail
        go_region_law (first | (go_simp; go_at_call 81; (try rw [hqi]); (try rw [hqu]); refine (get_is _ q (SSpace.drewX HS.out) had2 HX.out).mono ?_; rintro e w5 ⟨rfl, rfl⟩) | (refine Kd.R_append_step (Kd.int .u8) (w0 := wb) wb.heap.size (by rfl) _ _ 39 5 (.int .u8 0) 1 (by rfl) Try.underlying39 info5 rfl (by decide) (by omega) vd (ldp A an j) (getB A q) [.int .u8 (getB A q)] (fun k => k ≠ wb.heap.size) (fun _ => False) (by rfl) (by rfl) ?aP (fun _ h => h.elim) ?aF (Kd.R_drew HL.out.2.1) ?aB ?aS ?aL ?_; (case aP => exact rfl); (case aF => intro k hk; (try simp at hk); omega); (case aB => exact Below.trans HBl.out ((below_drew1 (Below.refl _ _)))); (case aS => simp; omega); (case aL => rw [hll]; omega); intro v1 w5 hR5 hB5 hg5 hat5; rw [← HNS.out] at hR5; obtain ⟨A1, c1, rfl, hc1, _⟩ := Kd.R_reads hR5; have hLN := ldi_app (LdI.drewX HL.out) hR5 hg5; have HLN := Lib.hid hLN; have k2 := bcell hLN.1 1; have k3 := bfroz hLN.1 1; simp only [List.getElem?_toArray, List.getElem?_cons_succ, List.getElem?_cons_zero] at k2; clear hR5 hB5 hg5 hat5 hLN hc1))
        all_goals
          clear k0 k1 k2 k3 hqi hqu hju
          obtain ⟨w6, hw6⟩ : ∃ x, (w5.setCell ⟨wb.heap.size, 1, none⟩ (.slice A1 (ldp A an (j + 1)).length c1)) = x := ⟨_, rfl⟩
          have HL6 := Lib.hid HLN.out.2
          rw [hw6] at HL6 ⊢
          clear hw6 HLN
          go_wp2_with fail
          go_roundw
          case rel => exact ⟨j + 1, by go_num, by omega, _, HL6⟩
          case measure => simp [intOf]; omega
      · obtain rfl : nn = j := by omega
        have hR := HL.out.2.1
        obtain ⟨A1, c1, rfl, _, _⟩ := Kd.R_reads hR
        rw [ldp_len] at HL k1
        have hr0 := HL.out.2.2.blk (fun e => e) HB0.out
        have q0 := bcell hr0 0
        have q1 := bcell hr0 1
        have z0 := bfroz hr0 0
        have z1 := bfroz hr0 1
        simp only [List.getElem?_toArray, List.getElem?_cons_succ, List.getElem?_cons_zero] at q0 q1
        have hfin := fun c0 v0 => load_fin (c0 := c0) (v0 := v0) HTB.out HZB.out HL.out
        rw [← ldp_is] at hfin
        have HFIN := Lib.hid hfin
        clear hr0 hR hfin
        go_wp2
        refine bodyPost_ret (v := .agg #[.int .i64 0, .slice A1 nn c1]) ?_ rfl (HFIN.out _ _)
        simp [results, Try.results62, go_sem, q0, q1]
  · rw [if_neg c1]
    obtain ⟨code, hcode⟩ : ∃ c, accessC A a n = c := ⟨_, rfl⟩
    rw [hcode] at c1 ⊢
    have HC := Lib.hid hcode
    have hb : (code == 0) = false := by simpa using c1
    have HL0 := Lib.hid (ldi_new wb code)
    clear hcode c1
    go_enter Try.func62, Try.ntmps62
    go_wp2_with (go_at_call 80; rw [HWB.out]; refine (access_is wb a n HIB.out ha HA.out).mono ?_; rintro e w1 ⟨rfl, rfl⟩; rw [HC.out])
    obtain ⟨w2, hw2⟩ : ∃ x, wb.alloc (.cells #[.int .i64 code, .slice none 0 0] 54) = x := ⟨_, rfl⟩
    rw [hw2] at HL0 ⊢
    clear hw2
    have k0 := bcell HL0.out.1 0
    have k1 := bcell HL0.out.1 1
    simp only [List.getElem?_toArray, List.getElem?_cons_succ, List.getElem?_cons_zero] at k0 k1
    have hr0 := HL0.out.2.2.blk (fun e => e) HB0.out
    have q0 := bcell hr0 0
    have q1 := bcell hr0 1
    have z0 := bfroz hr0 0
    have z1 := bfroz hr0 1
    simp only [List.getElem?_toArray, List.getElem?_cons_succ, List.getElem?_cons_zero] at q0 q1
    have HFIN := Lib.hid (fun c0 v0 => load_fin (c0 := c0) (v0 := v0) HTB.out HZB.out HL0.out)
    clear hr0
    go_loopw [8] (fun i W => i = .int .i64 0 ∧ W = w2) (fun i _ => 0)
    case atStart => exact ⟨rfl, rfl⟩
    case round =>
      obtain ⟨rfl, rfl⟩ := hrel
      by_cases hn : 0 < n
      · go_wp2
        refine bodyPost_ret (v := .agg #[.int .i64 code, .slice none 0 0]) ?_ rfl (HFIN.out _ _)
        simp [results, Try.results62, go_sem, q0, q1]
      · go_wp2
        refine bodyPost_ret (v := .agg #[.int .i64 code, .slice none 0 0]) ?_ rfl (HFIN.out _ _)
        simp [results, Try.results62, go_sem, q0, q1]
end Go.Proofs.Ytklobepkihdbkaa.SsD
/- The reference's address space: store, the open pages. -/
namespace Go.Proofs.Ytklobepkihdbkaa.SsE
open Go.RowKit Go.Proofs.YtklobepkihdbkaaW.PrintWords Mem Sp SpI SpP SpQ SsR SsM SsD
set_option linter.unusedVariables false
set_option linter.unusedSimpArgs false
def SsPost (w : World) (F : Nat → Prop) (sb : Nat) (bud code : Int) (A : Pages) (e : Ending) (w' : World) : Prop :=
  e = .returned (.agg #[.int .i64 code, .slice none 0 0]) ∧ SSpace w' F sb bud A ∧ Turn w w' F
theorem store_fin {w wb W : World} {F : Nat → Prop} {sb : Nat} {bud code : Int} {A : Pages} (hT : Turn w wb (fun _ => False)) (hF : ∀ k, F k → k < w.heap.size) (hS : SSpace W F sb bud A) (hW : Turn wb W F) (c0 v0 : Value) :
    SsPost w F sb bud code A (.returned (.agg #[.int .i64 code, .slice none 0 0])) ((W.setCell ⟨w.heap.size, 0, none⟩ c0).setCell ⟨w.heap.size, 1, none⟩ v0) := by
  have hn : ∀ k, F k → k ≠ w.heap.size := fun k hk e => by have := hF k hk; omega
  refine ⟨rfl, hS.turned (G := fun k => k = w.heap.size) ((((Turn.refl W (fun k => k = w.heap.size)).setCell (p := ⟨w.heap.size, 0, none⟩) (.inl rfl) _).setCell (p := ⟨w.heap.size, 1, none⟩) (.inl rfl) _)) hn, ?_⟩
  exact (((hT.mono (G := F) (fun k e => e.elim)).trans hW (fun k e => .inl e)).setCell (p := ⟨w.heap.size, 0, none⟩) (.inr (Nat.le_refl _)) _).setCell (p := ⟨w.heap.size, 1, none⟩) (.inr (Nat.le_refl _)) _
set_option maxRecDepth 100000 in
set_option maxHeartbeats 4000000 in
theorem store_is {F : Nat → Prop} {sb : Nat} {bud : Int} {A : Pages} (w : World) (a : Int) (Ad : Option Addr) (cd : Nat) (data : List Int) (h : SSpace w F sb bud A) (ha : 0 ≤ a) (hA : a ≤ 18446744073709551615)
    (hd : (Kd.int .u8).C w Ad data.length data) (hdF : ∀ ad, Ad = some ad → 0 < data.length → ¬ F ad.block) :
    Calls Try.prog 63 #[.pointer (some ⟨sb, 0, none⟩), .int .u64 a, .slice Ad data.length cd] w (SsPost w F sb bud (accessC A a data.length) (storeA A a data)) := by
  have HW := Lib.hid h
  have HA := Lib.hid hA
  have hlm := hd.2.1
  obtain ⟨wb, hwb⟩ : ∃ x, w.alloc (.cells #[.int .i64 0, .slice none 0 0] 54) = x := ⟨_, rfl⟩
  have HWB := Lib.hid hwb
  have hTb : Turn w (w.alloc (.cells #[.int .i64 0, .slice none 0 0] 54)) (fun _ => False) := (Turn.refl w _).alloc _
  rw [hwb] at hTb
  have HTB := Lib.hid hTb
  have HIB := Lib.hid (HW.out.turned hTb (fun _ _ e => e))
  have hd1 := C_move hd (fun ad he hn0 => hTb.block ad.block (C_lt hd ad he hn0) (fun e => e))
  have HDT := Lib.hid hd1
  have HDF := Lib.hid hdF
  have HFB := Lib.hid h.bound
  have hzb : wb.heap.size = w.heap.size + 1 := by rw [← hwb]; simp
  have HB0 := Lib.hid (show wb.heap[w.heap.size]? = some (.cells #[.int .i64 0, .slice none 0 0] 54 (0, 0)) by rw [← hwb]; exact alloc_new w _)
  have HZB := Lib.hid hzb
  clear hwb hTb hzb h hA hd hdF hd1
  obtain ⟨code, hcode⟩ : ∃ c, accessC A a data.length = c := ⟨_, rfl⟩
  have HC := Lib.hid hcode
  -- the box of the answer
  obtain ⟨w2, hw2⟩ : ∃ x, wb.alloc (.cells #[.int .i64 code, .slice none 0 0] 54) = x := ⟨_, rfl⟩
  have hT2 : Turn wb (wb.alloc (.cells #[.int .i64 code, .slice none 0 0] 54)) F := (Turn.refl wb _).alloc _
  have hI2 := HIB.out.turned (G := fun _ => False) ((Turn.refl wb _).alloc (.cells #[.int .i64 code, .slice none 0 0] 54)) (fun _ _ e => e)
  have hB2 := alloc_new wb (.cells #[.int .i64 code, .slice none 0 0] 54)
  rw [hw2] at hT2 hI2 hB2
  have HW2 := Lib.hid hw2
  have HT2 := Lib.hid hT2
  have HI2 := Lib.hid hI2
  have HBX := Lib.hid hB2
  have HNB : Hid (¬ F wb.heap.size ∧ ¬ F w.heap.size) := Lib.hid ⟨fun e => by have := HFB.out _ e; have := HZB.out; omega, fun e => by have := HFB.out _ e; omega⟩
  rw [hcode]
  clear hT2 hI2 hB2 hw2
  by_cases c1 : code = 0
  · subst c1
    obtain ⟨an, rfl⟩ := Int.eq_ofNat_of_zero_le ha
    obtain ⟨hn, hadd, hre⟩ := accessC_ok HC.out
    have hst : storeA A an data = putAll A an data := by unfold storeA; rw [if_pos HC.out, Int.toNat_natCast]
    rw [hst]
    have HRE := Lib.hid hre
    have HAD := Lib.hid hadd
    clear hre hadd hst hlm hcode
    have HI0 : Hid (SSpace w2 F sb bud (putAll A an (data.take 0))) := HI2
    go_enter Try.func63, Try.ntmps63
    go_wp2_with (go_at_call 80; rw [HWB.out]; refine (access_is wb an data.length HIB.out ha HA.out).mono ?_; rintro e w1 ⟨rfl, rfl⟩; rw [HC.out])
    rw [HW2.out]
    go_loopw [8] (fun i W => ∃ j : Nat, i = .int .i64 j ∧ j ≤ data.length ∧ Hid (SSpace W F sb bud (putAll A an (data.take j))) ∧ Hid (Turn wb W F)  ∧ Hid (W.heap[wb.heap.size]? = some (.cells #[.int .i64 0, .slice none 0 0] 54 (0, 0)))) (fun i _ => data.length - (intOf i).toNat)
    case atStart => exact ⟨0, rfl, Nat.zero_le _, HI0, HT2, HBX⟩
    case round =>
      clear HI0 HT2 HBX HI2
      obtain ⟨j, rfl, hj, HI, HT, HBX⟩ := hrel
      have k0 := bcell HBX.out 0
      have k1 := bcell HBX.out 1
      simp only [List.getElem?_toArray, List.getElem?_cons_succ, List.getElem?_cons_zero] at k0 k1
      by_cases hlt : j < data.length
      · have hdw := C_move HDT.out (fun ad he hn0 => HT.out.block ad.block (C_lt HDT.out ad he hn0) (HDF.out ad he hn0))
        obtain ⟨ad, had, hcx⟩ := Kd.at_int hdw (j : Int) (by omega) (by omega)
        rw [Int.toNat_natCast, show rd data (j : Int) = data.getD j 0 by unfold rd; rw [Int.toNat_natCast]] at hcx
        subst had
        have hrq := HRE.out j hlt
        have hpre : ∀ i, i < (data.take j).length → (an + i) / 1024 < A.length := fun i hi => reach_lt (HRE.out i (by rw [List.length_take] at hi; omega))
        rw [← reach_putAll (data.take j) A an (an + j) hpre] at hrq
        have had2 : ((an + j : Nat) : Int) ≤ 4611686018427387904 := by have := HAD.out (by omega); omega
        have hnx := putAll_take (A := A) (a := an) hlt
        obtain ⟨v, hv⟩ : ∃ v, data.getD j 0 = v := ⟨_, rfl⟩
        obtain ⟨q, hq⟩ : ∃ q, an + j = q := ⟨_, rfl⟩
        have hqi : (an : Int) + (j : Int) = (q : Int) := by omega
        rw [hv] at hcx hnx
        rw [hq] at hrq had2 hnx
        obtain ⟨bs, hx⟩ := reach_some hrq
        have HX := Lib.hid hx
        have HNX := Lib.hid hnx
        clear hx hrq hq hnx hv hdw hpre
        go_wp2_with (go_at_call 82; (try rw [hqi]); refine (put_is wr q v HI.out had2 HX.out).mono ?_; rintro e w5 ⟨rfl, hI5, hT5⟩; rw [← HNX.out] at hI5; have HI5 := Lib.hid hI5; have HB5 := Lib.hid (hT5.blk HNB.out.1 HBX.out); have HT5 := Lib.hid (HT.out.trans hT5 (fun k e => .inl e)); clear hI5 hT5)
        go_roundw
        case rel => exact ⟨j + 1, by go_num, by omega, HI5, HT5, HB5⟩
        case measure => simp [intOf]; omega
      · obtain rfl : j = data.length := by omega
        have hr0 := HT.out.blk HNB.out.2 HB0.out
        have q0 := bcell hr0 0
        have q1 := bcell hr0 1
        have z0 := bfroz hr0 0
        have z1 := bfroz hr0 1
        simp only [List.getElem?_toArray, List.getElem?_cons_succ, List.getElem?_cons_zero] at q0 q1
        rw [List.take_length] at HI
        clear hr0
        go_wp2
        refine bodyPost_ret (v := .agg #[.int .i64 0, .slice none 0 0]) ?_ rfl (store_fin HTB.out HFB.out HI.out HT.out _ _)
        simp [results, Try.results63, go_sem, q0, q1]
  · have hst : storeA A a data = A := by unfold storeA; rw [if_neg (by rw [hcode]; exact c1)]
    rw [hst]
    have hb : (code == 0) = false := by simpa using c1
    have k0 := bcell HBX.out 0
    have k1 := bcell HBX.out 1
    simp only [List.getElem?_toArray, List.getElem?_cons_succ, List.getElem?_cons_zero] at k0 k1
    have hr0 := HT2.out.blk HNB.out.2 HB0.out
    have q0 := bcell hr0 0
    have q1 := bcell hr0 1
    have z0 := bfroz hr0 0
    have z1 := bfroz hr0 1
    simp only [List.getElem?_toArray, List.getElem?_cons_succ, List.getElem?_cons_zero] at q0 q1
    clear hr0 hst hcode c1
    go_enter Try.func63, Try.ntmps63
    go_wp2_with (go_at_call 80; rw [HWB.out]; refine (access_is wb a data.length HIB.out ha HA.out).mono ?_; rintro e w1 ⟨rfl, rfl⟩; rw [HC.out])
    rw [HW2.out]
    go_loopw [8] (fun i W => i = .int .i64 0 ∧ W = w2) (fun i _ => 0)
    case atStart => exact ⟨rfl, rfl⟩
    case round =>
      obtain ⟨rfl, rfl⟩ := hrel
      by_cases hn : 0 < data.length
      · go_wp2
        refine bodyPost_ret (v := .agg #[.int .i64 code, .slice none 0 0]) ?_ rfl (store_fin HTB.out HFB.out HI2.out HT2.out _ _)
        simp [results, Try.results63, go_sem, q0, q1]
      · go_wp2
        refine bodyPost_ret (v := .agg #[.int .i64 code, .slice none 0 0]) ?_ rfl (store_fin HTB.out HFB.out HI2.out HT2.out _ _)
        simp [results, Try.results63, go_sem, q0, q1]
/-! ### the open pages -/
def openK (A : Pages) (j : Nat) : List Int := ((List.range j).filter fun i => opened (pg A i)).map fun i : Nat => (i : Int)
theorem openK_succ (A : Pages) (j : Nat) : openK A (j + 1) = openK A j ++ (if opened (pg A j) = true then [(j : Int)] else []) := by
  unfold openK
  rw [List.range_succ, List.filter_append, List.map_append]
  by_cases h : opened (pg A j) = true <;> simp [h]
theorem openK_le (A : Pages) (j : Nat) : (openK A j).length ≤ j := by
  unfold openK
  rw [List.length_map]
  exact Nat.le_trans (List.length_filter_le _ _) (by simp)
theorem openK_full (A : Pages) : openK A A.length = openL A := rfl
theorem info3 : (Try.prog.info? 3).map (fun i => (i.zero, i.size, i.bytes)) = some (some (.int .i64 0), 1, 8) := by kernel_rfl
def OpPost (w : World) (xs : List Int) (e : Ending) (w' : World) : Prop :=
  ∃ v, e = .returned v ∧ (Kd.int .i64).R 3 w' w.heap.size (fun _ => True) v xs ∧ Turn w w' (fun _ => False)
set_option maxRecDepth 100000 in
set_option maxHeartbeats 4000000 in
theorem opened_is {F : Nat → Prop} {sb : Nat} {bud : Int} {A : Pages} (w : World) (h : SSpace w F sb bud A) :
    Calls Try.prog 48 #[.pointer (some ⟨sb, 0, none⟩)] w (OpPost w (openL A)) := by
  obtain ⟨rb, Ar, cr, db, h⟩ := h
  obtain ⟨k0, k1⟩ := h.scells
  have hlen := h.len
  have HI := Lib.hid h
  clear h
  go_enter Try.func48, Try.ntmps48
  go_wp2_with fail
  go_loopw [3, 11] (fun v i W => ∃ j : Nat, i = .int .i64 j ∧ j ≤ A.length ∧ Hid ((Kd.int .i64).R 3 W w.heap.size (fun _ => True) v (openK A j)) ∧ Hid (Turn w W (fun _ => False))) (fun _ i _ => A.length - (intOf i).toNat)
  case atStart => exact ⟨0, rfl, Nat.zero_le _, Lib.hid (Kd.R_nil _ _ _ _ _), Lib.hid (Turn.refl w _)⟩
  case round =>
    obtain ⟨j, rfl, hj, HR, HT⟩ := hrel
    by_cases hlt : j < A.length
    · obtain ⟨h1, c0, c1, c2, hf⟩ := (HI.out.turned HT.out (fun _ _ e => e)).cells hlt
      subst h1
      have hns := openK_succ A j
      have hol := openK_le A j
      clear hf k0 k1
      cases hp : pg A j with
      | none =>
        rw [hp] at c0 c1 c2 hns
        unfold onV at c0
        unfold opV opened at c1
        unfold dtV at c2
        simp only [Option.isSome_none] at c0 c1 c2
        simp [opened] at hns
        have HNS := Lib.hid hns
        clear hns hp
        go_wp2_with fail
        go_roundw
        case rel => exact ⟨j + 1, by go_num, by omega, Lib.hid (by rw [HNS.out]; exact Kd.R_alloc HR.out _), Lib.hid (HT.out.alloc _)⟩
        case measure => simp [intOf]; omega
      | some x =>
        obtain ⟨bs, op⟩ := x
        rw [hp] at c0 c1 c2 hns
        unfold onV at c0
        unfold opV opened at c1
        unfold dtV at c2
        simp only [Option.isSome_some] at c0 c1 c2
        cases op with
        | false =>
          simp [opened] at hns
          have HNS := Lib.hid hns
          clear hns hp
          go_wp2_with fail
          go_roundw
          case rel => exact ⟨j + 1, by go_num, by omega, Lib.hid (by rw [HNS.out]; exact Kd.R_alloc HR.out _), Lib.hid (HT.out.alloc _)⟩
          case measure => simp [intOf]; omega
        | true =>
          simp [opened] at hns
          have HNS := Lib.hid hns
          have hzs := HT.out.size
          clear hns hp
          go_wp2_with ((with_reducible refine gate_dst (N := 25) rfl ?_); at_builtin; refine Kd.R_append (Kd.int .i64) (w0 := w) w.heap.size rfl (.tmp 22) (.tmp 24) 22 3 (.int .i64 0) 8 rfl Try.underlying22 info3 rfl (by decide) (by omega) u3 (openK A j) (j : Int) [.int .i64 (j : Int)] (fun _ => True) (fun _ => False) rfl ?aX ?aP (fun _ hk => hk.elim) ?aF ?aO ?aB ?aS ?aL ?_; (case aX => simp [Act.eval]); (case aP => exact rfl); (case aF => intro k hk; trivial); (case aO => exact Kd.R_alloc HR.out _); (case aB => exact (HT.out.alloc _).below (Nat.le_refl _) (fun k e => e.elim)); (case aS => simp; omega); (case aL => omega); intro v1 w5 hR5 hB5 hg5 hat5; rw [← HNS.out] at hR5; have HR5 := Lib.hid hR5; have HT5 := Lib.hid ((HT.out.alloc _).grown hg5 (fun b e => .inr ((Kd.R_bound HR.out).1 b e).2.1)); clear hR5 hB5 hg5 hat5)
          go_roundw
          case rel => exact ⟨j + 1, by go_num, by omega, HR5, HT5⟩
          case measure => simp [intOf]; omega
    · obtain rfl : j = A.length := by omega
      have hR := HR.out
      rw [openK_full] at hR
      have HRF := Lib.hid hR
      clear hR
      go_wp2
      go_ret
      exact ⟨_, rfl, HRF.out, HT.out⟩
end Go.Proofs.Ytklobepkihdbkaa.SsE
