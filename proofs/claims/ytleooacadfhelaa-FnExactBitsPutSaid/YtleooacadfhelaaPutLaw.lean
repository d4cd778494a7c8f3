/- The walk of the exact law on BitsPut: it returns true. No condition. -/
import Derived.Test.YtleooacadfhelaaPutL2
import Derived.Test.YtleooacadfhelaaPutF
import Derived.OpenShut
namespace Go.Proofs.Ytleooacadfhelaa.PutL
open Go.RowKit Go.Proofs.Ytleooacadfhelaa.PFnExactBitsPut Go.Proofs.YtleooacadfhelaaW.PrintWords Go.Proofs.YtleooacadfhelaaW.PrintLast Go.Proofs.YtleooacadfhelaaW.PrintMore BitF L2BitsPut Put PutF
set_option linter.unusedVariables false
set_option linter.unusedSimpArgs false
theorem set_getDI (xs : List Int) (i j : Nat) (v : Int) (hi : i < xs.length) : (xs.set i v).getD j 0 = if i = j then v else xs.getD j 0 := by
  simp only [List.getD_eq_getElem?_getD, List.getElem?_set]
  by_cases h : i = j
  · subst h
    simp [hi]
  · simp [h]
theorem ext_getD {xs ys : List Int} (hl : xs.length = ys.length) (h : ∀ j : Nat, j < ys.length → xs.getD j 0 = ys.getD j 0) : xs = ys := by
  apply List.ext_getElem hl
  intro j h1 h2
  have := h j h2
  simp only [List.getD_eq_getElem?_getD, List.getElem?_eq_getElem h1, List.getElem?_eq_getElem h2, Option.getD_some] at this
  exact this
theorem to_go (l : List Int) (hn : l.length ≤ 1048576) : ∀ (d k i : Nat) (xs : List Int), l.length - i = d → i ≤ l.length → d < k → xs.length = l.length → (∀ j : Nat, j < i → xs.getD j 0 = l.getD j 0) → laws_toUint64S.l0 k l xs i = some l := by
  intro d
  induction d with
  | zero =>
    intro k i xs hd hi hk hx hb
    obtain ⟨k, rfl⟩ : ∃ m, k = m + 1 := ⟨k - 1, by omega⟩
    rw [laws_toUint64S.l0, if_neg (by omega), ext_getD hx (fun j hj => hb j (by omega))]
  | succ d ih =>
    intro k i xs hd hi hk hx hb
    obtain ⟨k, rfl⟩ : ∃ m, k = m + 1 := ⟨k - 1, by omega⟩
    have e3 : Hid (wrap64 ((i : Int) + 1) = (i : Int) + 1) := w64 (by omega) (by omega)
    have e5 : (i : Int) + 1 = ((i + 1 : Nat) : Int) := by omega
    rw [laws_toUint64S.l0, if_pos (by omega), if_pos (by omega), if_pos (by omega), e3.out, e5]
    refine ih k (i + 1) _ (by omega) (by omega) (by omega) (by simpa using hx) (fun j hj => ?_)
    rw [set_getDI _ _ _ _ (by omega)]
    by_cases e : (i : Int).toNat = j
    · rw [if_pos e]
      unfold rd
      rw [e]
    · rw [if_neg e]
      exact hb j (by omega)
theorem to_is (l : List Int) (hn : l.length ≤ 1048576) (k : Nat) (hk : l.length < k) : laws_toUint64S.f k l = some l := by
  unfold laws_toUint64S.f
  rw [if_pos (by omega), if_pos (by omega)]
  exact to_go l hn l.length k 0 _ (by omega) (by omega) hk (by simp) (fun j hj => by omega)
theorem eq_go (l : List Int) (hn : l.length ≤ 1048576) : ∀ (d k i : Nat), l.length - i = d → i ≤ l.length → d < k → laws_eqUint64S.l0 k l l i = some true := by
  intro d
  induction d with
  | zero =>
    intro k i hd hi hk
    obtain ⟨k, rfl⟩ : ∃ m, k = m + 1 := ⟨k - 1, by omega⟩
    rw [laws_eqUint64S.l0, if_neg (by omega)]
  | succ d ih =>
    intro k i hd hi hk
    obtain ⟨k, rfl⟩ : ∃ m, k = m + 1 := ⟨k - 1, by omega⟩
    have e3 : Hid (wrap64 ((i : Int) + 1) = (i : Int) + 1) := w64 (by omega) (by omega)
    have e5 : (i : Int) + 1 = ((i + 1 : Nat) : Int) := by omega
    rw [laws_eqUint64S.l0, if_pos (by omega), if_pos (by omega), if_pos (by omega), if_pos rfl, e3.out, e5]
    exact ih k (i + 1) (by omega) (by omega) (by omega)
theorem eq_is (l : List Int) (hn : l.length ≤ 1048576) (k : Nat) (hk : l.length < k) : laws_eqUint64S.f k l l = some true := by
  unfold laws_eqUint64S.f
  rw [if_pos rfl]
  exact eq_go l hn l.length k 0 (by omega) (by omega) hk
def marks (m : Nat) (n : Nat) : List Int := (List.range n).map (fun j => ((m + j : Nat) : Int))
theorem marks_len (m n : Nat) : (marks m n).length = n := by simp [marks]
theorem marks_getD {m n j : Nat} (hj : j < n) : (marks m n).getD j 0 = ((m + j : Nat) : Int) := by
  simp [marks, List.getD_eq_getElem?_getD, hj]
theorem mark_go (n m : Nat) (hn : n ≤ 1048576) (hm : m ≤ 1048576) : ∀ (d k i : Nat) (xs : List Int), n - i = d → i ≤ n → d < k → xs.length = n → (∀ j : Nat, j < i → xs.getD j 0 = ((m + j : Nat) : Int)) → laws_markUint64S.l0 k xs ((m + i : Nat) : Int) i = some (((m + n : Nat) : Int), marks m n) := by
  intro d
  induction d with
  | zero =>
    intro k i xs hd hi hk hx hb
    obtain ⟨k, rfl⟩ : ∃ m, k = m + 1 := ⟨k - 1, by omega⟩
    obtain rfl : i = n := by omega
    rw [laws_markUint64S.l0, if_neg (by omega), ext_getD (xs := xs) (ys := marks m i) (by rw [marks_len, hx]) (fun j hj => by rw [marks_len] at hj; rw [hb j hj, marks_getD hj])]
  | succ d ih =>
    intro k i xs hd hi hk hx hb
    obtain ⟨k, rfl⟩ : ∃ m, k = m + 1 := ⟨k - 1, by omega⟩
    have e1 : Hid (wrap64 ((i : Int) + 1) = (i : Int) + 1) := w64 (by omega) (by omega)
    have e2 : Hid (wrap64 (((m + i : Nat) : Int) + 1) = ((m + i : Nat) : Int) + 1) := w64 (by omega) (by omega)
    have e3 : Hid (IntKind.u64.wrap ((m + i : Nat) : Int) = ((m + i : Nat) : Int)) := (by rw [IntKind.wrap_u64]; omega : IntKind.u64.wrap ((m + i : Nat) : Int) = ((m + i : Nat) : Int))
    have e5 : (i : Int) + 1 = ((i + 1 : Nat) : Int) := by omega
    have e6 : ((m + i : Nat) : Int) + 1 = ((m + (i + 1) : Nat) : Int) := by omega
    rw [laws_markUint64S.l0, if_pos (by omega), if_pos (by omega), e1.out, e2.out, e3.out, e5, e6]
    refine ih k (i + 1) _ (by omega) (by omega) (by omega) (by simpa using hx) (fun j hj => ?_)
    rw [set_getDI _ _ _ _ (by omega)]
    by_cases e : (i : Int).toNat = j
    · rw [if_pos e, ← e, Int.toNat_natCast]
    · rw [if_neg e]
      exact hb j (by omega)
theorem mark_is (l : List Int) (hn : l.length ≤ 1048576) (k : Nat) (hk : l.length < k) : laws_markUint64S.f k l 1 = some (((1 + l.length : Nat) : Int), marks 1 l.length) :=
  mark_go l.length 1 hn (by omega) l.length k 0 l (by omega) (by omega) hk rfl (fun j hj => by omega)
theorem held_go (n m : Nat) (hn : n ≤ 1048576) (hm : m ≤ 1048576) : ∀ (d k i : Nat), n - i = d → i ≤ n → d < k → laws_heldUint64S.l0 k (marks m n) ((m + i : Nat) : Int) i = some ((m + n : Nat) : Int) := by
  intro d
  induction d with
  | zero =>
    intro k i hd hi hk
    obtain ⟨k, rfl⟩ : ∃ m, k = m + 1 := ⟨k - 1, by omega⟩
    obtain rfl : i = n := by omega
    rw [laws_heldUint64S.l0, if_neg (by rw [marks_len]; omega)]
  | succ d ih =>
    intro k i hd hi hk
    obtain ⟨k, rfl⟩ : ∃ m, k = m + 1 := ⟨k - 1, by omega⟩
    have e1 : Hid (wrap64 ((i : Int) + 1) = (i : Int) + 1) := w64 (by omega) (by omega)
    have e2 : Hid (wrap64 (((m + i : Nat) : Int) + 1) = ((m + i : Nat) : Int) + 1) := w64 (by omega) (by omega)
    have e3 : IntKind.u64.wrap ((m + i : Nat) : Int) = ((m + i : Nat) : Int) := by rw [IntKind.wrap_u64]; omega
    have e5 : (i : Int) + 1 = ((i + 1 : Nat) : Int) := by omega
    have e6 : ((m + i : Nat) : Int) + 1 = ((m + (i + 1) : Nat) : Int) := by omega
    have er : rd (marks m n) (i : Int) = ((m + i : Nat) : Int) := by
      unfold rd
      rw [Int.toNat_natCast, marks_getD (by omega)]
    rw [laws_heldUint64S.l0, if_pos (by rw [marks_len]; omega), if_pos (by omega), er, e3, if_pos rfl, e1.out, e2.out, e5, e6]
    exact ih k (i + 1) (by omega) (by omega) (by omega)
theorem held_is (n : Nat) (hn : n ≤ 1048576) (k : Nat) (hk : n < k) : laws_heldUint64S.f k (marks 1 n) 1 = some ((1 + n : Nat) : Int) :=
  held_go n 1 hn (by omega) n k 0 (by omega) (by omega) hk
def ans (l : List Int) (n i : Int) (on : Bool) (r : List Int) (b : Bool) : Prop := (GoodB l n ∧ 0 ≤ i ∧ i < n ∧ r = putw l i on ∧ b = true) ∨ (¬ (GoodB l n ∧ 0 ≤ i ∧ i < n) ∧ r = [] ∧ b = false)
theorem impl_is (A : Option Addr) (c : Nat) (l : List Int) (hl : Words l) (n i : Int) (on : Bool) (hn : l.length ≤ 1048576) (r : List Int) (b : Bool) (w : World) (hC : Kd.C (Kd.int .u64) w A l.length l) (hc : l.length ≤ c) (hnb : -9223372036854775808 ≤ n ∧ n ≤ 9223372036854775807) (h : ans l n i on r b) :
    Calls Try.prog 20 #[.slice A l.length c, .int .i64 n, .int .i64 i, .bool on] w fun e w' => ∃ v0 : Value, e = .returned (.tuple #[v0, .bool b]) ∧ Kd.R (Kd.int .u64) 39 w' w.heap.size (fun _ => True) v0 r ∧ Below w.heap.size w w' := by
  rcases h with ⟨hg, h0, h1, rfl, rfl⟩ | ⟨hg, rfl, rfl⟩
  · exact Put.put_good A c l n i on w hC hc hl hg h0 h1
  · have key : ∀ g : Bool, impl_bitmap_uint64_good.f l n = some g → (g = false ∨ i < 0 ∨ n ≤ i) → Calls Try.prog 20 #[.slice A l.length c, .int .i64 n, .int .i64 i, .bool on] w fun e w' => ∃ v0 : Value, e = .returned (.tuple #[v0, .bool false]) ∧ Kd.R (Kd.int .u64) 39 w' w.heap.size (fun _ => True) v0 [] ∧ Below w.heap.size w w' :=
      fun g hf hi => (Put.put_bad A c l n i on g w hC hc hf hi).mono fun e w' ⟨he, hb⟩ => ⟨_, he, Kd.R_nil _ _ _ _ _, hb⟩
    by_cases hs : Shape l n
    · obtain ⟨g, hf, hi⟩ := BitF.good_is hl hs
      refine key g hf ?_
      cases g
      · exact .inl rfl
      · by_cases h0 : i < 0
        · exact .inr (.inl h0)
        · by_cases h1 : i < n
          · exact absurd ⟨hi.1 rfl, by omega, h1⟩ hg
          · exact .inr (.inr (by omega))
    · exact key false (BitF.bad_shape hs hn hnb) (.inl rfl)
theorem own_of {w0 w' : World} {B0 e : Nat} {v : Value} {xs : List Int} (h : Kd.R (Kd.int .u64) e w' B0 (fun _ => True) v xs) (hle : w0.heap.size ≤ B0) : Kd.R (Kd.int .u64) e w' w0.heap.size (fun k => B0 ≤ k ∧ k < w'.heap.size) v xs :=
  Kd.R_lower (Kd.R_mono (Kd.R_bound h) (fun k hk => ⟨hk.2.1, hk.2.2.1⟩)) hle
set_option maxHeartbeats 4000000 in
theorem bitsPut_law {w : World} (A : Option Addr) (c : Nat) (l : List Int) (n i : Int) (on : Bool) (hC : Kd.C (Kd.int .u64) w A l.length l) (hc : l.length ≤ c) (hwf : ∀ x ∈ l, (Lit.int .u64 x).wf = true) (hy : l.length * 8 ≤ 140737488351232) (wn : (Lit.int .i64 n).wf = true) (wi : (Lit.int .i64 i).wf = true) :
    Calls Try.prog 7 #[.slice A l.length c, .int .i64 n, .int .i64 i, .bool on] w fun e w' => e = .returned (.bool true) ∧ Below w.heap.size w w' := by
  by_cases hbig : 1048576 < l.length
  · go_enter Try.func7, Try.ntmps7
    go_wp2
    go_ret
    exact ⟨rfl, Below.refl _ _⟩
  · have hn : l.length ≤ 1048576 := by omega
    have hnb := Lib.hid (bounds_i64 wn)
    have hW : Words l := fun x hx => ⟨(bounds_u64 (hwf x hx)).1, (bounds_u64 (hwf x hx)).2⟩
    have HC := Lib.hid hC
    clear hC hwf wn wi hbig
    obtain ⟨r, b, hsp, him, hrl⟩ : ∃ r b, spec_BitsPut.f (64 * l.length + 2) l n i on = some (r, b) ∧ ans l n i on r b ∧ r.length ≤ 1048576 := by
      by_cases h : GoodB l n ∧ 0 ≤ i ∧ i < n
      · obtain ⟨q, rfl⟩ := Int.eq_ofNat_of_zero_le h.2.1
        exact ⟨_, _, spec_yes hW h.1 q h.2.2 on _ (Nat.le_refl _), .inl ⟨h.1, h.2.1, h.2.2, rfl, rfl⟩, by unfold putw; simp; exact hn⟩
      · exact ⟨_, _, spec_no hW hn on h _ (Nat.le_refl _), .inr ⟨h, rfl, rfl⟩, by simp⟩
    have HS := Lib.hid hsp
    have HI := Lib.hid him
    clear hsp him
    have HT := Lib.hid (to_is l hn (l.length + 1) (Nat.lt_succ_self _))
    have HE := Lib.hid (eq_is l hn (l.length + 1) (Nat.lt_succ_self _))
    have HEr := Lib.hid (eq_is r hrl (r.length + 1) (Nat.lt_succ_self _))
    have HM := Lib.hid (mark_is l hn (l.length + 1) (Nat.lt_succ_self _))
    have HMr := Lib.hid (mark_is r hrl (r.length + 1) (Nat.lt_succ_self _))
    have HHr := Lib.hid (held_is r.length hrl (r.length + 1) (Nat.lt_succ_self _))
    have HW := Lib.hid hW
    clear hW
    go_enter Try.func7, Try.ntmps7
    -- w0, w1 := spec.BitsPut(to(aB), ..)
    go_wp2_with fail
    refine (laws_toUint64S.calls _ A c l l _ HC.out hc HT.out).mono ?_
    rintro e w1 ⟨v1, rfl, hR1, hw1⟩
    obtain ⟨A1, c1, rfl, hc1, hC1⟩ := Kd.R_reads hR1
    clear hR1
    go_wp2_with fail
    refine (spec_BitsPut.calls _ A1 c1 l n i on r b _ hC1 hc1 HS.out).mono ?_
    rintro e w2 ⟨vw, rfl, hRw, hw2⟩
    have hB2 := Bits.bstep hw1 hw2
    have hRw2 := own_of (w0 := w) hRw hw1.size
    clear hRw hC1 hc1
    -- x0 := to(aB); g0, g1 := impl.BitsPut(x0, ..)
    go_wp2_with fail
    refine (laws_toUint64S.calls _ A c l l _ (Kd.C_below HC.out hB2) hc HT.out).mono ?_
    rintro e w3 ⟨vx, rfl, hRx, hw3⟩
    have hB3 := Bits.bstep hB2 hw3
    have hRx3 := own_of (w0 := w) hRx hB2.size
    clear hRx
    obtain ⟨Ax, cx, rfl, hcx, hCx⟩ := Kd.R_reads hRx3
    go_wp2_with fail
    refine (impl_is Ax cx l HW.out n i on hn r b _ hCx hcx hnb.out HI.out).mono ?_
    rintro e w4 ⟨vg, rfl, hRg, hw4⟩
    have hB4 := Bits.bstep hB3 hw4
    have hRg4 := own_of (w0 := w) hRg hB3.size
    have hRw4 := Kd.R_below (Kd.R_below hRw2 hw3) hw4
    have hRx4 := Kd.R_below hRx3 hw4
    clear hRg hCx hRw2 hRx3
    obtain ⟨Aw, cw, rfl, hcw, _⟩ := Kd.R_reads hRw4
    obtain ⟨Ag, cg, rfl, hcg, _⟩ := Kd.R_reads hRg4
    -- eq(g0, w0)
    go_wp2_with fail
    refine (laws_eqUint64S.calls _ Ag cg r Aw cw r true _ (Kd.R_reads' hRg4).2.2 hcg (Kd.R_reads' hRw4).2.2 hcw HEr.out).mono ?_
    rintro e w5 ⟨rfl, hw5⟩
    have hB5 := Bits.bstep hB4 hw5.below
    have hRg5 := Kd.R_below hRg4 hw5.below
    have hRw5 := Kd.R_below hRw4 hw5.below
    have hRx5 := Kd.R_below hRx4 hw5.below
    clear hRg4 hRw4 hRx4
    have hbb : (b == b) = true := by simp
    have hbn : (b != b) = false := by simp
    -- eq(x0, to(aB))
    go_wp2_with fail
    refine (laws_toUint64S.calls _ A c l l _ (Kd.C_below HC.out hB5) hc HT.out).mono ?_
    rintro e w6 ⟨v6, rfl, hR6, hw6⟩
    have hB6 := Bits.bstep hB5 hw6
    have hRg6 := Kd.R_below hRg5 hw6
    have hRw6 := Kd.R_below hRw5 hw6
    have hRx6 := Kd.R_below hRx5 hw6
    clear hRg5 hRw5 hRx5
    obtain ⟨A6, c6, rfl, hc6, hC6⟩ := Kd.R_reads hR6
    clear hR6
    go_wp2_with fail
    refine (laws_eqUint64S.calls _ Ax cx l A6 c6 l true _ (Kd.R_reads' hRx6).2.2 hcx hC6 hc6 HE.out).mono ?_
    rintro e w7 ⟨rfl, hw7⟩
    have hB7 := Bits.bstep hB6 hw7.below
    have hRg7 := Kd.R_below hRg6 hw7.below
    have hRw7 := Kd.R_below hRw6 hw7.below
    have hRx7 := Kd.R_below hRx6 hw7.below
    clear hRg6 hRw6 hRx6 hC6 hc6
    have hs34 := hw4.size
    have hs23 := hw3.size
    -- k = mark(x0, k)
    go_wp2_with fail
    refine (laws_markUint64S.calls _ _ _ l 1 _ _ w _ hB7 hRx7 HM.out).mono ?_
    rintro e w8 ⟨rfl, hRx8, hB8, hk8⟩
    have hRg8 := Kd.R_kept hRg7 hk8 (fun k hk h2 => by omega)
    have hRw8 := Kd.R_kept hRw7 hk8 (fun k hk h2 => by omega)
    clear hRx8 hRx7 hRg7 hRw7
    go_wp2_with fail
    refine (laws_eqUint64S.calls _ Ag cg r Aw cw r true _ (Kd.R_reads' hRg8).2.2 hcg (Kd.R_reads' hRw8).2.2 hcw HEr.out).mono ?_
    rintro e w9 ⟨rfl, hw9⟩
    have hB9 := Bits.bstep hB8 hw9.below
    have hRg9 := Kd.R_below hRg8 hw9.below
    have hRw9 := Kd.R_below hRw8 hw9.below
    clear hRg8 hRw8
    -- m = mark(g0, m); q = held(g0, q)
    go_wp2_with fail
    refine (laws_markUint64S.calls _ _ _ r 1 _ _ w _ hB9 hRg9 HMr.out).mono ?_
    rintro e w10 ⟨rfl, hRg10, hB10, hk10⟩
    have hRw10 := Kd.R_kept hRw9 hk10 (fun k hk h2 => by omega)
    clear hRg9 hRw9
    have hml := marks_len 1 r.length
    obtain ⟨ms, hms⟩ : ∃ ms, marks 1 r.length = ms := ⟨_, rfl⟩
    rw [hms] at hRg10 hml
    have HHr2 := HHr.out
    rw [hms] at HHr2
    have HH := Lib.hid HHr2
    have HL := Lib.hid hml
    clear HHr2 hml hms
    have heldc : ∀ W, Kd.C (Kd.int .u64) W Ag ms.length ms → Calls Try.prog 22 #[.slice Ag r.length cg, .int .i64 1] W fun e w' => e = .returned (.int .i64 ((1 + r.length : Nat) : Int)) ∧ Drawn0 W w' := fun W hW => by
      have := laws_heldUint64S.calls _ Ag cg ms 1 _ W hW (by rw [HL.out]; exact hcg) HH.out
      rw [HL.out] at this
      exact this
    have HC10 := Lib.hid heldc
    clear heldc
    have hmq : (((1 + r.length : Nat) : Int) != ((1 + r.length : Nat) : Int)) = false := by simp
    have hmp : ¬ ((1 + r.length : Nat) : Int) < 0 := by omega
    have hread : ∀ W, Kd.R (Kd.int .u64) 39 W w.heap.size (fun k => (w3.heap.size ≤ k ∧ k < w4.heap.size) ∨ w9.heap.size ≤ k) (.slice Ag r.length cg) ms → Kd.C (Kd.int .u64) W Ag ms.length ms := fun W h => by
      have := Kd.R_reads' h
      exact this.2.2
    obtain ⟨q, hq⟩ : ∃ q : Int, ((1 + r.length : Nat) : Int) = q := ⟨_, rfl⟩
    rw [hq] at hmq hmp HC10 ⊢
    clear hq
    go_wp2_with fail
    refine (HC10.out _ (hread _ hRg10)).mono ?_
    rintro e w11 ⟨rfl, hw11⟩
    have hB11 := Bits.bstep hB10 hw11.below
    have hRg11 := Kd.R_below hRg10 hw11.below
    have hRw11 := Kd.R_below hRw10 hw11.below
    clear hRg10 hRw10
    go_wp2_with fail
    refine (laws_toUint64S.calls _ A c l l _ (Kd.C_below HC.out hB11) hc HT.out).mono ?_
    rintro e w12 ⟨v12, rfl, hR12, hw12⟩
    have hB12 := Bits.bstep hB11 hw12
    have hRg12 := Kd.R_below hRg11 hw12
    have hRw12 := Kd.R_below hRw11 hw12
    clear hRg11 hRw11
    obtain ⟨A12, c12, rfl, hc12, hC12⟩ := Kd.R_reads hR12
    clear hR12
    go_wp2_with fail
    refine (impl_is A12 c12 l HW.out n i on hn r b _ hC12 hc12 hnb.out HI.out).mono ?_
    rintro e w13 ⟨vh, rfl, hRh, hw13⟩
    have hB13 := Bits.bstep hB12 hw13
    have hRg13 := Kd.R_below hRg12 hw13
    have hRw13 := Kd.R_below hRw12 hw13
    clear hRg12 hRw12 hC12 hc12
    obtain ⟨Ah, ch, rfl, hch, hCh⟩ := Kd.R_reads hRh
    clear hRh
    go_wp2_with fail
    refine (laws_eqUint64S.calls _ Ah ch r Aw cw r true _ hCh hch (Kd.R_reads' hRw13).2.2 hcw HEr.out).mono ?_
    rintro e w14 ⟨rfl, hw14⟩
    have hB14 := Bits.bstep hB13 hw14.below
    have hRg14 := Kd.R_below hRg13 hw14.below
    clear hRg13 hRw13 hCh
    go_wp2_with fail
    refine (HC10.out _ (hread _ hRg14)).mono ?_
    rintro e w15 ⟨rfl, hw15⟩
    have hB15 := Bits.bstep hB14 hw15.below
    go_wp2
    go_ret
    exact ⟨rfl, hB15⟩
end Go.Proofs.Ytleooacadfhelaa.PutL
