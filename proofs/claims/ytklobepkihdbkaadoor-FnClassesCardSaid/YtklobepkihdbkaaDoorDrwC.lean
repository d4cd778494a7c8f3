/- The draws of a class and of a product: each returns numbers of its kind. Condition: the code is a list of bytes. -/
import Derived.Test.YtklobepkihdbkaaDoorPFnClassesx
import Derived.Test.YtklobepkihdbkaaDoorClsFns
import Derived.WalkKit
import Derived.WalkLawsBesides
import Derived.WalkSpells
import Derived.Lib.Hide
namespace Go.Proofs.YtklobepkihdbkaaDoor.DrwC
open Go.RowKit Go.Proofs.YtklobepkihdbkaaDoor.PFnClasses Go.Proofs.YtklobepkihdbkaaDoorW.PrintWords Go.Proofs.YtklobepkihdbkaaDoorW.PrintLast Go.Proofs.YtklobepkihdbkaaDoorW.PrintMore Cls
set_option linter.unusedVariables false
set_option linter.unusedSimpArgs false
theorem w64 {x : Int} (h : -4611686018427387904 ≤ x) (h' : x ≤ 4611686018427387904) : wrap64 x = x := by unfold wrap64; omega
theorem wu {x : Int} (h : 0 ≤ x) (h' : x ≤ 4611686018427387904) : IntKind.u64.wrap x = x := by rw [IntKind.wrap_u64]; omega
def U (x : Int) : Prop := 0 ≤ x ∧ x ≤ 18446744073709551615
theorem wrapU (x : Int) : U (IntKind.u64.wrap x) := by unfold U; rw [IntKind.wrap_u64]; omega
theorem bitsU (op : BinOp) (x y : Int) : U (Go.bits op .u64 x y) := by unfold Go.bits; exact wrapU _
theorem shrU {x : Int} (h : U x) (y : Int) : U (shr .u64 x y) := by
  unfold shr
  have h1 : 0 ≤ x / 2 ^ min y.toNat IntKind.u64.bits := Int.ediv_nonneg h.1 (Int.pow_nonneg (by omega))
  have h2 : x / 2 ^ min y.toNat IntKind.u64.bits ≤ x := Int.ediv_le_self _ h.1
  exact ⟨h1, Int.le_trans h2 h.2⟩
theorem divU {x : Int} (h : U x) (m : Nat) : U (x / 2 ^ m) := by
  have h1 : 0 ≤ x / 2 ^ m := Int.ediv_nonneg h.1 (Int.pow_nonneg (by omega))
  have h2 : x / 2 ^ m ≤ x := Int.ediv_le_self _ h.1
  exact ⟨h1, Int.le_trans h2 h.2⟩
def Bytes (l : List Int) : Prop := l.length ≤ 1048576 ∧ ∀ x ∈ l, 0 ≤ x ∧ x ≤ 255
theorem rd_byte {l : List Int} (hl : Bytes l) {i : Int} (h0 : 0 ≤ i) (h1 : i < l.length) : 0 ≤ rd l i ∧ rd l i ≤ 255 := by
  refine hl.2 _ ?_
  unfold rd
  rw [List.getD_eq_getElem?_getD, List.getElem?_eq_getElem (by omega)]
  exact List.getElem_mem _
theorem next_some {l : List Int} (hl : Bytes l) {i : Int} (h0 : 0 ≤ i) (h1 : i ≤ l.length) : ∃ v i', spec_l1Reader_next.f l i = some (v, i') ∧ 0 ≤ v ∧ v ≤ 255 ∧ 0 ≤ i' ∧ i' ≤ l.length := by
  have hn := hl.1
  unfold spec_l1Reader_next.f
  by_cases h : i ≥ (l.length : Int)
  · exact ⟨0, i, by rw [if_pos h], by omega, by omega, h0, h1⟩
  · have hb := rd_byte hl h0 (by omega)
    refine ⟨rd l i, i + 1, ?_, hb.1, hb.2, by omega, by omega⟩
    rw [if_neg h, if_pos h0, if_pos (by omega), w64 (x := rd l i) (by omega) (by omega), w64 (x := i + 1) (by omega) (by omega)]
theorem wide_go {l : List Int} (hl : Bytes l) : ∀ (d k : Nat) (x j i : Int), 8 - j = d → d < k → U x → 0 ≤ j → 0 ≤ i → i ≤ l.length → ∃ r i', spec_l1Reader_wide.l0 k x j l i = some (r, i') ∧ U r ∧ 0 ≤ i' ∧ i' ≤ l.length := by
  intro d
  induction d with
  | zero =>
    intro k x j i hd hk hx hj h0 h1
    obtain ⟨k, rfl⟩ : ∃ m, k = m + 1 := ⟨k - 1, by omega⟩
    exact ⟨x, i, by rw [spec_l1Reader_wide.l0, if_neg (by omega)], hx, h0, h1⟩
  | succ d ih =>
    intro k x j i hd hk hx hj h0 h1
    obtain ⟨k, rfl⟩ : ∃ m, k = m + 1 := ⟨k - 1, by omega⟩
    obtain ⟨v, i', e, _, _, h2, h3⟩ := next_some hl h0 h1
    obtain ⟨r, i2, e2, hr, h4, h5⟩ := ih k (Go.bits .or .u64 (IntKind.u64.wrap (x * 256)) (IntKind.u64.wrap v)) (j + 1) i' (by omega) (by omega) (bitsU _ _ _) (by omega) h2 h3
    refine ⟨r, i2, ?_, hr, h4, h5⟩
    rw [spec_l1Reader_wide.l0, if_pos (by omega), e, Option.bind_some, w64 (x := j + 1) (by omega) (by omega)]
    exact e2
theorem wide_some {l : List Int} (hl : Bytes l) {i : Int} (h0 : 0 ≤ i) (h1 : i ≤ l.length) (k : Nat) (hk : 9 ≤ k) : ∃ r i', spec_l1Reader_wide.f k l i = some (r, i') ∧ U r ∧ 0 ≤ i' ∧ i' ≤ l.length :=
  wide_go hl 8 k 0 0 i (by omega) (by omega) ⟨by omega, by omega⟩ (by omega) h0 h1
theorem S_size {c : Int} (h0 : 0 ≤ c) (h1 : c < 12) : spec_SlotSize.f c = some (sz c) := by
  rcases in12 h0 h1 with rfl | rfl | rfl | rfl | rfl | rfl | rfl | rfl | rfl | rfl | rfl | rfl <;> decide
theorem usable_some {c : Int} (h0 : 0 ≤ c) (h1 : c < 12) : ∃ u, spec_Usable.f c = some u := by
  unfold spec_Usable.f
  rw [S_size h0 h1, Option.bind_some]
  split
  · exact ⟨_, rfl⟩
  · rw [Option.bind_some]
    exact ⟨_, rfl⟩
theorem request_some {l : List Int} (hl : Bytes l) (k : Nat) (hk : 9 ≤ k) : ∃ r i', spec_l1Reader_request.f k l 0 = some (r, i') ∧ U r := by
  have hn := hl.1
  obtain ⟨v, i, e, hv0, hv1, h2, h3⟩ := next_some hl (i := 0) (by omega) (by omega)
  unfold spec_l1Reader_request.f
  rw [e, Option.bind_some]
  dsimp only
  by_cases g1 : v ≥ 250
  · obtain ⟨r, i2, e2, hr, _⟩ := wide_some hl h2 h3 k hk
    have ht : v.tmod 8 = v % 8 := Int.tmod_eq_emod_of_nonneg hv0
    refine ⟨_, i2, ?_, shrU hr (IntKind.u64.wrap (wrap64 (v.tmod 8 * 8)))⟩
    rw [if_pos g1, e2, Option.bind_some, if_pos (wrapU _).1]
  · rw [if_neg g1]
    by_cases g2 : v ≥ 225
    · rw [if_pos g2]
      exact ⟨_, _, rfl, wrapU _⟩
    · rw [if_neg g2]
      by_cases g3 : v ≥ 200
      · rw [if_pos g3]
        exact ⟨_, _, rfl, wrapU _⟩
      · rw [if_neg g3]
        by_cases g4 : v.tmod 3 = 0
        · have hd : v.tdiv 3 = v / 3 := Int.tdiv_eq_ediv_of_nonneg hv0
          have hm : (v / 3).tmod 12 = v / 3 % 12 := Int.tmod_eq_emod_of_nonneg (by omega)
          obtain ⟨u, hu⟩ := usable_some (c := v / 3 % 12) (by omega) (by omega)
          rw [if_pos g4, hd, w64 (x := v / 3) (by omega) (by omega), hm, hu, Option.bind_some]
          exact ⟨_, _, rfl, wrapU _⟩
        · rw [if_neg g4]
          by_cases g5 : v.tmod 3 = 1
          · rw [if_pos g5]
            exact ⟨_, _, rfl, wrapU _⟩
          · rw [if_neg g5]
            exact ⟨_, _, rfl, wrapU _⟩
def SomeU (w : World) (e : Ending) (w' : World) : Prop := ∃ r : Int, U r ∧ e = .returned (.int .u64 r) ∧ Below w.heap.size w w'
def SomeUU (w : World) (e : Ending) (w' : World) : Prop := ∃ a b : Int, U a ∧ U b ∧ e = .returned (.tuple #[.int .u64 a, .int .u64 b]) ∧ Below w.heap.size w w'
set_option maxHeartbeats 400000 in
theorem drawClassOf (A : Option Addr) (c : Nat) (l : List Int) (hl : Bytes l) (w : World) (hC : Kd.C (Kd.int .u8) w A l.length l) :
    Calls Tryd.prog 12 #[.slice A l.length c] w (SomeU w) := by
  obtain ⟨r, i, e, hr⟩ := request_some hl 9 (Nat.le_refl _)
  have HE := Lib.hid e
  have HC := Lib.hid hC
  have HU := Lib.hid hr
  clear e hC hr
  go_enter Tryd.func12, Tryd.ntmps12
  go_wp2_with fail
  refine (spec_l1Reader_request.calls 9 w.heap.size l 0 r i w _ (IsS46.new w w A c l 0 (Below.refl _ _) HC.out) ((Below.refl _ w).alloc (Nat.le_refl _) _) HE.out).mono ?_
  rintro e w1 ⟨rfl, hI, hB, _⟩
  go_wp2
  go_ret
  exact ⟨r, HU.out, rfl, hB⟩
set_option maxHeartbeats 1000000 in
theorem drawProduct (A : Option Addr) (c : Nat) (l : List Int) (hl : Bytes l) (w : World) (hC : Kd.C (Kd.int .u8) w A l.length l) :
    Calls Tryd.prog 18 #[.slice A l.length c] w (SomeUU w) := by
  obtain ⟨v1, i1, e1, hv1, hv1', h1, h1'⟩ := next_some hl (i := 0) (by omega) (by omega)
  obtain ⟨r2, i2, e2, hr2, h2, h2'⟩ := wide_some hl h1 h1' 9 (Nat.le_refl _)
  obtain ⟨r3, i3, e3, hr3, h3, h3'⟩ := wide_some hl h2 h2' 9 (Nat.le_refl _)
  obtain ⟨v4, i4, e4, hv4, hv4', h4, h4'⟩ := next_some hl h3 h3'
  have HE1 := Lib.hid e1
  have HE2 := Lib.hid e2
  have HE3 := Lib.hid e3
  have HE4 := Lib.hid e4
  have HC := Lib.hid hC
  have HR2 := Lib.hid hr2
  have HR3 := Lib.hid hr3
  clear e1 e2 e3 e4 hC hr2 hr3 h1 h1' h2 h2' h3 h3' h4 h4'
  have q1 : 0 ≤ v1 % 64 := by omega
  have q2 : v1 % 64 < 64 := by omega
  have q3 : 0 ≤ v4 % 64 := by omega
  have q4 : v4 % 64 < 64 := by omega
  go_enter Tryd.func18, Tryd.ntmps18
  go_wp2_with fail
  refine (spec_l1Reader_next.calls w.heap.size l 0 v1 i1 w _ (IsS46.new w w A c l 0 (Below.refl _ _) HC.out) ((Below.refl _ w).alloc (Nat.le_refl _) _) HE1.out).mono ?_
  rintro e w1 ⟨rfl, hI1, hB1, _⟩
  go_wp2_with fail
  refine (spec_l1Reader_wide.calls 9 w.heap.size l i1 r2 i2 w _ hI1 hB1 HE2.out).mono ?_
  rintro e w2 ⟨rfl, hI2, hB2, _⟩
  go_wp2_with fail
  obtain ⟨X, hX⟩ : ∃ X, r2 / 2 ^ (v1 % 64).toNat = X := ⟨_, rfl⟩
  rw [hX]
  have HX : Hid (U X) := Lib.hid (by rw [← hX]; exact divU HR2.out _)
  clear hX
  refine (spec_l1Reader_wide.calls 9 w.heap.size l i2 r3 i3 w _ hI2 hB2 HE3.out).mono ?_
  rintro e w3 ⟨rfl, hI3, hB3, _⟩
  go_wp2_with fail
  refine (spec_l1Reader_next.calls w.heap.size l i3 v4 i4 w _ hI3 hB3 HE4.out).mono ?_
  rintro e w4 ⟨rfl, hI4, hB4, _⟩
  have HY : Hid (U (r3 / 2 ^ (v4 % 64).toNat)) := Lib.hid (divU HR3.out _)
  by_cases g1 : v1 % 3 = 1
  · have b1 : (v1 % 3 == 1) = true := by rw [beq_iff_eq]; exact g1
    clear g1
    by_cases g2 : 0 < X
    · go_wp2
      go_ret2
      exact ⟨_, _, HX.out, wrapU _, rfl, hB4⟩
    · go_wp2
      go_ret2
      exact ⟨_, _, HX.out, HY.out, rfl, hB4⟩
  · have b1 : (v1 % 3 == 1) = false := by rw [beq_eq_false_iff_ne]; exact g1
    clear g1
    go_wp2
    go_ret2
    exact ⟨_, _, HX.out, HY.out, rfl, hB4⟩
end Go.Proofs.YtklobepkihdbkaaDoor.DrwC
