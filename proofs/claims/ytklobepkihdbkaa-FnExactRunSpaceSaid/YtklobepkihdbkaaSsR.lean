/- The reference's address space in memory. -/
import Derived.Test.YtklobepkihdbkaaSpQ
import Derived.Deep.DeepCutAuto
import Derived.Deep.CutBlock
import Derived.Deep.RegionHeld3
namespace Go.Proofs.Ytklobepkihdbkaa.SsR
open Go.RowKit Go.Proofs.YtklobepkihdbkaaW.PrintWords Mem Sp SpI SpP SpQ
set_option linter.unusedVariables false
set_option linter.unusedSimpArgs false
def rowB (bs : List Int) : Array Value := (bs.map (Value.int .u8)).toArray
theorem rowB_at {bs : List Int} {i : Nat} (hi : i < bs.length) : (rowB bs)[i]? = some (.int .u8 (bs.getD i 0)) := by
  simp [rowB, List.getD_eq_getElem?_getD, List.getElem?_eq_getElem hi]
theorem rowB_set (bs : List Int) (i : Nat) (v : Int) : (rowB bs).setIfInBounds i (.int .u8 v) = rowB (bs.set i v) := by
  simp only [rowB, List.setIfInBounds_toArray, List.map_set]
def onV (x : Pg) : Value := .bool x.isSome
def opV (x : Pg) : Value := .bool (opened x)
def dtV (x : Pg) (b : Nat) : Value := match x with
  | none => .slice none 0 0
  | some _ => .slice (some ⟨b, 0, none⟩) 1024 1024
structure SSp (w : World) (F : Nat → Prop) (sb rb : Nat) (Ar : Option Addr) (cr : Nat) (db : Nat → Nat) (bud : Int) (A : Pages) : Prop where
  hs : w.heap[sb]? = some (.cells #[.slice Ar A.length cr, .int .i64 bud] 117 (0, 0))
  hr : 0 < A.length → Ar = some ⟨rb, 0, none⟩ ∧ F rb ∧ ∃ cs, w.heap[rb]? = some (.cells cs 121 (0, 0)) ∧ A.length * 3 ≤ cs.size ∧ ∀ k, k < A.length → cs[k * 3]? = some (onV (pg A k)) ∧ cs[k * 3 + 1]? = some (opV (pg A k)) ∧ cs[k * 3 + 2]? = some (dtV (pg A k) (db k))
  hd : ∀ k bs op, pg A k = some (bs, op) → bs.length = 1024 ∧ F (db k) ∧ w.heap[db k]? = some (.cells (rowB bs) 5 (0, 0))
  inj : ∀ k k', (pg A k).isSome = true → (pg A k').isSome = true → db k = db k' → k = k'
  fs : F sb
  bound : ∀ k, F k → k < w.heap.size
  len : A.length ≤ 4096
  cap : A.length ≤ cr
def SSpace (w : World) (F : Nat → Prop) (sb : Nat) (bud : Int) (A : Pages) : Prop := ∃ rb Ar cr db, SSp w F sb rb Ar cr db bud A
section
variable {w w' : World} {F G : Nat → Prop} {sb rb cr : Nat} {Ar : Option Addr} {db : Nat → Nat} {bud : Int} {A : Pages}
theorem SSp.move (h : SSp w F sb rb Ar cr db bud A) (hm : ∀ k, F k → w'.heap[k]? = w.heap[k]?) (hz : w.heap.size ≤ w'.heap.size) : SSp w' F sb rb Ar cr db bud A :=
  ⟨(hm _ h.fs).trans h.hs, fun hp => let ⟨a, b, cs, c, d⟩ := h.hr hp; ⟨a, b, cs, (hm _ b).trans c, d⟩, fun k bs op e => let ⟨a, b, c⟩ := h.hd k bs op e; ⟨a, b, (hm _ b).trans c⟩, h.inj, h.fs, fun k hk => Nat.lt_of_lt_of_le (h.bound k hk) hz, h.len, h.cap⟩
theorem SSp.turned (h : SSp w F sb rb Ar cr db bud A) (ht : Turn w w' G) (hg : ∀ k, F k → ¬ G k) : SSp w' F sb rb Ar cr db bud A := h.move (fun k hk => ht.block k (h.bound k hk) (hg k hk)) ht.size
theorem SSpace.turned (h : SSpace w F sb bud A) (ht : Turn w w' G) (hg : ∀ k, F k → ¬ G k) : SSpace w' F sb bud A := let ⟨rb, Ar, cr, db, h⟩ := h; ⟨rb, Ar, cr, db, h.turned ht hg⟩
theorem SSpace.bound (h : SSpace w F sb bud A) : ∀ k, F k → k < w.heap.size := let ⟨rb, Ar, cr, db, h⟩ := h; h.bound
/-- The three cells of a page. -/
theorem SSp.cells (h : SSp w F sb rb Ar cr db bud A) {k : Nat} (hk : k < A.length) : Ar = some ⟨rb, 0, none⟩ ∧ w.cell? ⟨rb, k * 3, none⟩ = some (onV (pg A k)) ∧ w.cell? ⟨rb, k * 3 + 1, none⟩ = some (opV (pg A k)) ∧ w.cell? ⟨rb, k * 3 + 2, none⟩ = some (dtV (pg A k) (db k)) ∧ ∀ i, w.frozen? ⟨rb, i, none⟩ = false := by
  obtain ⟨h1, _, cs, h2, h3, h4⟩ := h.hr (by omega)
  obtain ⟨a, b, c⟩ := h4 k hk
  exact ⟨h1, (bcell h2 _).trans a, (bcell h2 _).trans b, (bcell h2 _).trans c, bfroz h2⟩
theorem SSp.scells (h : SSp w F sb rb Ar cr db bud A) : w.cell? ⟨sb, 0, none⟩ = some (.slice Ar A.length cr) ∧ w.cell? ⟨sb, 1, none⟩ = some (.int .i64 bud) := ⟨bcell h.hs 0, bcell h.hs 1⟩
theorem SSp.ne (h : SSp w F sb rb Ar cr db bud A) (hp : 0 < A.length) : rb ≠ sb := by
  obtain ⟨_, _, cs, h2, _⟩ := h.hr hp
  intro e
  rw [e, h.hs] at h2
  injection h2 with h2
  injection h2 with _ h2
  exact absurd h2 (by decide)
theorem SSp.data_ne (h : SSp w F sb rb Ar cr db bud A) {k : Nat} (hk : (pg A k).isSome = true) : db k ≠ sb ∧ db k ≠ rb := by
  obtain ⟨x, hx⟩ := Option.isSome_iff_exists.1 hk
  obtain ⟨_, _, hc⟩ := h.hd k x.1 x.2 hx
  constructor
  · intro e
    rw [e, h.hs] at hc
    injection hc with hc
    injection hc with _ hc
    exact absurd hc (by decide)
  · intro e
    obtain ⟨_, _, cs, h2, _⟩ := h.hr (by have := pg_lt hk; omega)
    rw [e, h2] at hc
    injection hc with hc
    injection hc with _ hc
    exact absurd hc (by decide)
end
theorem onCount_take {A : Pages} {i : Nat} (h : i < A.length) : onCount (A.take (i + 1)) = onCount (A.take i) + (if (pg A i).isSome = true then 1 else 0) := by
  unfold onCount
  rw [List.take_succ_eq_append_getElem h, List.filter_append, List.length_append]
  have : pg A i = A[i] := by unfold pg; simp [List.getD_eq_getElem?_getD, List.getElem?_eq_getElem h]
  rw [this]
  cases A[i] <;> simp
theorem onCount_take_le (A : Pages) (i : Nat) : onCount (A.take i) ≤ i := Nat.le_trans (List.length_filter_le _ _) (by simp; omega)
set_option maxRecDepth 100000 in
set_option maxHeartbeats 2000000 in
theorem committed_is {F : Nat → Prop} {sb : Nat} {bud : Int} {A : Pages} (w : World) (h : SSpace w F sb bud A) :
    Calls Try.prog 47 #[.pointer (some ⟨sb, 0, none⟩)] w fun e w' => e = .returned (.int .i64 (onCount A)) ∧ Turn w w' (fun _ => False) := by
  obtain ⟨rb, Ar, cr, db, h⟩ := h
  obtain ⟨k0, k1⟩ := h.scells
  have hlen := h.len
  have HI := Lib.hid h
  clear h
  go_enter Try.func47, Try.ntmps47
  go_wp2_with fail
  go_loopw [3, 11] (fun n i W => ∃ j : Nat, i = .int .i64 j ∧ j ≤ A.length ∧ n = .int .i64 (onCount (A.take j) : Nat) ∧ Hid (Turn w W (fun _ => False))) (fun _ i _ => A.length - (intOf i).toNat)
  case atStart => exact ⟨0, rfl, Nat.zero_le _, rfl, Lib.hid (Turn.refl w _)⟩
  case round =>
    obtain ⟨j, rfl, hj, rfl, HT⟩ := hrel
    by_cases hlt : j < A.length
    · obtain ⟨h1, c0, c1, c2, hf⟩ := (HI.out.turned HT.out (fun _ _ e => e)).cells hlt
      subst h1
      have hoc := onCount_take hlt
      have hol := onCount_take_le A j
      clear hf k0 k1
      obtain ⟨q, hq⟩ : ∃ q, onCount (A.take j) = q := ⟨_, rfl⟩
      rw [hq] at hoc hol ⊢
      cases hp : pg A j with
      | some x =>
        obtain ⟨bs, op⟩ := x
        rw [hp] at c0 c1 c2 hoc
        simp only [Option.isSome_some, if_true] at hoc
        have HO := Lib.hid hoc
        unfold onV at c0
        unfold opV opened at c1
        unfold dtV at c2
        simp only [Option.isSome_some] at c0 c1 c2
        clear hoc hp hq
        go_wp2_with fail
        go_roundw
        case rel => exact ⟨j + 1, by go_num, by omega, by rw [HO.out]; go_num, Lib.hid (HT.out.alloc _)⟩
        case measure => simp [intOf]; omega
      | none =>
        rw [hp] at c0 c1 c2 hoc
        simp only [Option.isSome_none, Bool.false_eq_true, if_false, Nat.add_zero] at hoc
        have HO := Lib.hid hoc
        unfold onV at c0
        unfold opV opened at c1
        unfold dtV at c2
        simp only [Option.isSome_none] at c0 c1 c2
        clear hoc hp hq
        go_wp2_with fail
        go_roundw
        case rel => exact ⟨j + 1, by go_num, by omega, by rw [HO.out], Lib.hid (HT.out.alloc _)⟩
        case measure => simp [intOf]; omega
    · obtain rfl : j = A.length := by omega
      rw [List.take_length]
      go_wp2
      go_ret
      exact ⟨rfl, HT.out⟩
/-! ### reach, get, put -/
set_option maxRecDepth 100000 in
set_option maxHeartbeats 2000000 in
theorem reach_is {F : Nat → Prop} {sb : Nat} {bud : Int} {A : Pages} (w : World) (a : Nat) (h : SSpace w F sb bud A) (ha : (a : Int) ≤ 4611686018427387904) :
    Calls Try.prog 90 #[.pointer (some ⟨sb, 0, none⟩), .int .u64 a] w fun e w' => e = .returned (.bool (reach A a)) ∧ w = w' := by
  obtain ⟨rb, Ar, cr, db, h⟩ := h
  obtain ⟨k0, k1⟩ := h.scells
  have hlen := h.len
  have HI := Lib.hid h
  clear h
  unfold reach
  obtain ⟨p, hp⟩ : ∃ p, a / 1024 = p := ⟨_, rfl⟩
  rw [hp]
  have hpi : (a : Int) / 1024 = (p : Int) := by omega
  have hpp : p ≤ 4503599627370496 := by omega
  clear hp
  by_cases hlt : p < A.length
  · obtain ⟨h1, c0, c1, c2, hf⟩ := HI.out.cells hlt
    subst h1
    clear hf c2
    have hlt2 : (p : Int) < (A.length : Int) := by omega
    cases hx : pg A p with
    | none =>
      rw [hx] at c0
      unfold onV at c0
      simp only [Option.isSome_none] at c0
      unfold opened
      clear c1 hx
      go_enter Try.func90, Try.ntmps90
      go_wp2
      go_ret
      exact ⟨rfl, rfl⟩
    | some x =>
      obtain ⟨bs, op⟩ := x
      rw [hx] at c0 c1
      unfold onV at c0
      unfold opV opened at c1
      simp only [Option.isSome_some] at c0 c1
      unfold opened
      clear hx
      go_enter Try.func90, Try.ntmps90
      go_wp2
      go_ret
      exact ⟨rfl, rfl⟩
  · rw [show pg A p = none from pg_out (by omega)]
    have hlt2 : ¬ (p : Int) < (A.length : Int) := by omega
    unfold opened
    go_enter Try.func90, Try.ntmps90
    go_wp2
    go_ret
    exact ⟨rfl, rfl⟩
set_option maxRecDepth 100000 in
set_option maxHeartbeats 2000000 in
theorem get_is {F : Nat → Prop} {sb : Nat} {bud : Int} {A : Pages} {bs : List Int} {op : Bool} (w : World) (a : Nat) (h : SSpace w F sb bud A) (ha : (a : Int) ≤ 4611686018427387904) (hx : pg A (a / 1024) = some (bs, op)) :
    Calls Try.prog 81 #[.pointer (some ⟨sb, 0, none⟩), .int .u64 a] w fun e w' => e = .returned (.int .u8 (getB A a)) ∧ w = w' := by
  obtain ⟨rb, Ar, cr, db, h⟩ := h
  obtain ⟨k0, k1⟩ := h.scells
  have hlen := h.len
  have hlt := pg_lt (A := A) (k := a / 1024) (by rw [hx]; rfl)
  obtain ⟨h1, c0, c1, c2, hf⟩ := h.cells hlt
  subst h1
  obtain ⟨hl, _, hd⟩ := h.hd _ bs op hx
  have hb : getB A a = bs.getD (a % 1024) 0 := by unfold getB; rw [hx]; rfl
  have hc := bcell hd (a % 1024)
  rw [rowB_at (by omega), ← hb] at hc
  rw [hx] at c2
  unfold dtV at c2
  simp only at c2
  obtain ⟨v, hv⟩ : ∃ v, getB A a = v := ⟨_, rfl⟩
  rw [hv] at hc ⊢
  obtain ⟨p, hp⟩ : ∃ p, a / 1024 = p := ⟨_, rfl⟩
  obtain ⟨o, ho⟩ : ∃ o, a % 1024 = o := ⟨_, rfl⟩
  rw [hp] at hlt c2 hc
  rw [ho] at hc
  have hpi : (a : Int) / 1024 = (p : Int) := by omega
  have hoi : (a : Int) % 1024 = (o : Int) := by omega
  have hlt2 : (p : Int) < (A.length : Int) := by omega
  have ho2 : o < 1024 := by omega
  clear hf c0 c1 h hd hx hl hb hv hp ho
  go_enter Try.func81, Try.ntmps81
  go_wp2
  go_ret
  exact ⟨rfl, rfl⟩
theorem SSp.put1 {w : World} {F : Nat → Prop} {sb rb cr : Nat} {Ar : Option Addr} {db : Nat → Nat} {bud : Int} {A : Pages} {a : Nat} {bs : List Int} {op : Bool} (h : SSp w F sb rb Ar cr db bud A) (hx : pg A (a / 1024) = some (bs, op)) (v : Int) :
    SSp (w.setCell ⟨db (a / 1024), a % 1024, none⟩ (.int .u8 v)) F sb rb Ar cr db bud (putB A a v) := by
  have hs : (pg A (a / 1024)).isSome = true := by rw [hx]; rfl
  have hk := pg_lt hs
  obtain ⟨hn1, hn2⟩ := h.data_ne hs
  obtain ⟨hl, hF, hd⟩ := h.hd _ bs op hx
  have he : putB A a v = A.set (a / 1024) (some (bs.set (a % 1024) v, op)) := by unfold putB; rw [hx]; rfl
  have ho : ∀ i, i ≠ db (a / 1024) → (w.setCell ⟨db (a / 1024), a % 1024, none⟩ (.int .u8 v)).heap[i]? = w.heap[i]? := fun i hi => Below.heap_setCell _ _ _ _ hi
  have hsm : ∀ k, (pg (putB A a v) k).isSome = (pg A k).isSome := fun k => by
    rw [he, pg_set hk]
    by_cases e : k = a / 1024
    · rw [if_pos e, e, hs]; rfl
    · rw [if_neg e]
  have hop : ∀ k, onV (pg (putB A a v) k) = onV (pg A k) ∧ opV (pg (putB A a v) k) = opV (pg A k) ∧ dtV (pg (putB A a v) k) (db k) = dtV (pg A k) (db k) := fun k => by
    rw [he, pg_set hk]
    by_cases e : k = a / 1024
    · rw [if_pos e, e, hx]; exact ⟨rfl, rfl, rfl⟩
    · rw [if_neg e]; exact ⟨rfl, rfl, rfl⟩
  refine ⟨?_, fun hp => ?_, fun k xs o e => ?_, fun k k' e1 e2 => h.inj k k' (by rw [← hsm]; exact e1) (by rw [← hsm]; exact e2), h.fs, fun k hk => by rw [set_size]; exact h.bound k hk, by rw [putB_len]; exact h.len, by rw [putB_len]; exact h.cap⟩
  · rw [putB_len, ho _ (Ne.symm hn1)]
    exact h.hs
  · rw [putB_len] at hp ⊢
    obtain ⟨h1, h2, cs, h3, h4, h5⟩ := h.hr hp
    refine ⟨h1, h2, cs, (ho _ (Ne.symm hn2)).trans h3, h4, fun k hk => ?_⟩
    rw [(hop k).1, (hop k).2.1, (hop k).2.2]
    exact h5 k hk
  · rw [he, pg_set hk] at e
    by_cases e1 : k = a / 1024
    · rw [if_pos e1] at e
      cases e
      subst e1
      refine ⟨by rw [List.length_set]; exact hl, hF, ?_⟩
      have := bset hd (a % 1024) (.int .u8 v)
      rw [rowB_set] at this
      exact this
    · rw [if_neg e1] at e
      obtain ⟨g1, g2, g3⟩ := h.hd k xs o e
      exact ⟨g1, g2, (ho _ (fun e2 => e1 (h.inj k _ (by rw [e]; rfl) hs e2))).trans g3⟩
set_option maxRecDepth 100000 in
set_option maxHeartbeats 2000000 in
theorem put_is {F : Nat → Prop} {sb : Nat} {bud : Int} {A : Pages} {bs : List Int} {op : Bool} (w : World) (a : Nat) (v : Int) (h : SSpace w F sb bud A) (ha : (a : Int) ≤ 4611686018427387904) (hx : pg A (a / 1024) = some (bs, op)) :
    Calls Try.prog 82 #[.pointer (some ⟨sb, 0, none⟩), .int .u64 a, .int .u8 v] w fun e w' => e = .returned (.tuple #[]) ∧ SSpace w' F sb bud (putB A a v) ∧ Turn w w' F := by
  obtain ⟨rb, Ar, cr, db, h⟩ := h
  obtain ⟨k0, k1⟩ := h.scells
  have hlen := h.len
  have hlt := pg_lt (A := A) (k := a / 1024) (by rw [hx]; rfl)
  obtain ⟨h1, c0, c1, c2, hf⟩ := h.cells hlt
  subst h1
  obtain ⟨hl, hF, hd⟩ := h.hd _ bs op hx
  have hc := bcell hd (a % 1024)
  rw [rowB_at (by omega)] at hc
  have hz := bfroz hd (a % 1024)
  rw [hx] at c2
  unfold dtV at c2
  simp only at c2
  have hfin : SSpace (w.setCell ⟨db (a / 1024), a % 1024, none⟩ (.int .u8 v)) F sb bud (putB A a v) ∧ Turn w (w.setCell ⟨db (a / 1024), a % 1024, none⟩ (.int .u8 v)) F := ⟨⟨_, _, _, _, h.put1 hx v⟩, (Turn.refl w F).setCell (.inl hF) _⟩
  obtain ⟨p, hp⟩ : ∃ p, a / 1024 = p := ⟨_, rfl⟩
  obtain ⟨o, ho⟩ : ∃ o, a % 1024 = o := ⟨_, rfl⟩
  rw [hp] at hlt c2 hc hz hfin
  rw [ho] at hc hz hfin
  have hpi : (a : Int) / 1024 = (p : Int) := by omega
  have hoi : (a : Int) % 1024 = (o : Int) := by omega
  have hlt2 : (p : Int) < (A.length : Int) := by omega
  have ho2 : o < 1024 := by omega
  have HF := Lib.hid hfin
  clear hf c0 c1 h hd hx hl hp ho hfin hF
  go_enter Try.func82, Try.ntmps82
  go_wp2
  go_end0
  exact ⟨rfl, HF.out⟩
/-! ### access -/
set_option maxRecDepth 100000 in
set_option maxHeartbeats 2000000 in
theorem access_is {F : Nat → Prop} {sb : Nat} {bud : Int} {A : Pages} (w : World) (a n : Int) (h : SSpace w F sb bud A) (h0 : 0 ≤ a) (h1 : a ≤ 18446744073709551615) :
    Calls Try.prog 80 #[.pointer (some ⟨sb, 0, none⟩), .int .u64 a, .int .i64 n] w fun e w' => e = .returned (.int .i64 (accessC A a n)) ∧ w = w' := by
  have HI := Lib.hid h
  have H1 := Lib.hid h1
  clear h h1
  by_cases c1 : n < 0 ∨ 4096 < n
  · have e1 : accessC A a n = 6 := by unfold accessC; rw [if_pos c1]
    rw [e1]
    have e2 : (decide (n < 0) || decide (4096 < n)) = true := by simp only [Bool.or_eq_true, decide_eq_true_eq]; exact c1
    clear c1 e1
    go_enter Try.func80, Try.ntmps80
    go_wp2
    all_goals go_ret
    all_goals exact ⟨rfl, rfl⟩
  obtain ⟨nn, rfl⟩ := Int.eq_ofNat_of_zero_le (show 0 ≤ n by omega)
  obtain ⟨an, rfl⟩ := Int.eq_ofNat_of_zero_le h0
  have hn : nn ≤ 4096 := by omega
  clear c1 h0
  by_cases c2 : nn = 0
  · subst c2
    have e1 : accessC A an (0 : Nat) = 0 := by unfold accessC; rw [if_neg (by omega), if_pos (by omega)]
    rw [e1]
    go_enter Try.func80, Try.ntmps80
    go_wp2
    all_goals go_ret
    all_goals exact ⟨rfl, rfl⟩
  have hn1 : 1 ≤ nn := by omega
  have hne : ((nn : Int) == 0) = false := by simp; omega
  clear c2
  by_cases c3 : Pag.Ok an nn
  · have hb : an + nn ≤ 4611686018427387904 := by have := c3.2.2; omega
    obtain ⟨code, hcode⟩ : ∃ c, accessC A an nn = c := ⟨_, rfl⟩
    have hcode2 : (code = 0 ∧ ∀ i, i < nn → reach A (an + i) = true) ∨ (code = 2 ∧ ¬ ∀ i, i < nn → reach A (an + i) = true) := by
      rw [← hcode]
      unfold accessC
      rw [if_neg (by omega), if_neg (by omega)]
      simp only [Int.toNat_natCast]
      by_cases h : ∀ i, i < nn → reach A (an + i) = true
      · rw [if_pos ⟨by omega, h⟩]; exact .inl ⟨rfl, h⟩
      · rw [if_neg (fun e => h e.2)]; exact .inr ⟨rfl, h⟩
    rw [hcode]
    have H3 := Lib.hid c3
    have HC := Lib.hid hcode2
    clear c3 hcode hcode2
    go_enter Try.func80, Try.ntmps80
    go_wp2_with (go_at_call 89; refine (Pag.spec_ok an nn w (by omega) H3.out).mono ?_; rintro e w' ⟨rfl, rfl⟩)
    go_loopw [10] (fun i W => ∃ j : Nat, i = .int .i64 j ∧ j ≤ nn ∧ Hid (∀ k, k < j → reach A (an + k) = true) ∧ W = w) (fun i _ => nn - (intOf i).toNat)
    case atStart => exact ⟨0, rfl, Nat.zero_le _, Lib.hid (fun k hk => by omega), rfl⟩
    case round =>
      obtain ⟨j, rfl, hj, HA, rfl⟩ := hrel
      by_cases hlt : j < nn
      · have hq : (an : Int) + (j : Int) = ((an + j : Nat) : Int) := by omega
        have HQ := Lib.hid hq
        clear hq
        cases hr : reach A (an + j) with
        | true =>
          have HA2 : Hid (∀ k, k < j + 1 → reach A (an + k) = true) := Lib.hid (fun k hk => by
            by_cases e : k = j
            · subst e; exact hr
            · exact HA.out k (by omega))
          have HR := Lib.hid hr
          clear hr
          go_wp2_with (go_at_call 90; rw [HQ.out]; refine (reach_is wr (an + j) HI.out (by omega)).mono ?_; rintro e w' ⟨rfl, rfl⟩; rw [HR.out])
          go_roundw
          case rel => exact ⟨j + 1, by go_num, by omega, HA2, trivial⟩
          case measure => simp [intOf]; omega
        | false =>
          have hc2 : code = 2 := by
            rcases HC.out with ⟨_, h⟩ | ⟨h, _⟩
            · rw [h j hlt] at hr; cases hr
            · exact h
          subst hc2
          have HR := Lib.hid hr
          clear hr
          go_wp2_with (go_at_call 90; rw [HQ.out]; refine (reach_is wr (an + j) HI.out (by omega)).mono ?_; rintro e w' ⟨rfl, rfl⟩; rw [HR.out])
          go_ret
          exact ⟨rfl, rfl⟩
      · obtain rfl : nn = j := by omega
        have hc2 : code = 0 := by
          rcases HC.out with ⟨h, _⟩ | ⟨_, h⟩
          · exact h
          · exact absurd HA.out h
        subst hc2
        go_wp2
        go_ret
        exact ⟨rfl, rfl⟩
  · have e1 : accessC A an nn = 2 := by
      unfold accessC
      rw [if_neg (by omega), if_neg (by omega), if_neg (fun e => c3 ⟨by omega, by omega, by omega⟩)]
    rw [e1]
    have H3 := Lib.hid c3
    clear c3 e1
    go_enter Try.func80, Try.ntmps80
    go_wp2_with (go_at_call 89; refine (Pag.spec_no an nn w (by omega) H1.out H3.out).mono ?_; rintro e w' ⟨rfl, rfl⟩)
    all_goals go_ret
    all_goals exact ⟨rfl, rfl⟩
end Go.Proofs.Ytklobepkihdbkaa.SsR
