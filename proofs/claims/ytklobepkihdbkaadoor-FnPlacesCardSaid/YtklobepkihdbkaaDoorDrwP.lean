/- The draws of a slot and of an address: each returns numbers of its kind. Condition: the code is a list of bytes. -/
import Derived.Test.YtklobepkihdbkaaDoorPFnPlacesx
import Derived.Test.YtklobepkihdbkaaDoorPlcFns
import Derived.WalkKit
import Derived.WalkLawsBesides
import Derived.WalkSpells
import Derived.OwnWalk
import Derived.Lib.Hide
namespace Go.Proofs.YtklobepkihdbkaaDoor.DrwP
open Go.RowKit Go.Proofs.YtklobepkihdbkaaDoor.PFnPlaces Go.Proofs.YtklobepkihdbkaaDoorW.PrintWords Go.Proofs.YtklobepkihdbkaaDoorW.PrintLast Go.Proofs.YtklobepkihdbkaaDoorW.PrintMore Cls Plc
set_option linter.unusedVariables false
set_option linter.unusedSimpArgs false
theorem w64 {x : Int} (h : -4611686018427387904 ≤ x) (h' : x ≤ 4611686018427387904) : wrap64 x = x := by unfold wrap64; omega
theorem wu {x : Int} (h : 0 ≤ x) (h' : x ≤ 4611686018427387904) : IntKind.u64.wrap x = x := by rw [IntKind.wrap_u64]; omega
def U (x : Int) : Prop := 0 ≤ x ∧ x ≤ 18446744073709551615
theorem wrapU (x : Int) : U (IntKind.u64.wrap x) := by unfold U; rw [IntKind.wrap_u64]; omega
theorem bitsU (op : BinOp) (x y : Int) : U (Go.bits op .u64 x y) := by unfold Go.bits; exact wrapU _
theorem shrU {x : Int} (h : U x) (y : Int) : U (shr .u64 x y) := by
  unfold shr
  have h1 : 0 ≤ x / 2 ^ min y.toNat IntKind.u64.bits := Int.ediv_nonneg h.1 (Int.pow_nonneg (by omega))
  have h2 : x / 2 ^ min y.toNat IntKind.u64.bits ≤ x := Int.ediv_le_self _ h.1
  exact ⟨h1, Int.le_trans h2 h.2⟩
theorem divU {x : Int} (h : U x) (m : Nat) : U (x / 2 ^ m) := by
  have h1 : 0 ≤ x / 2 ^ m := Int.ediv_nonneg h.1 (Int.pow_nonneg (by omega))
  have h2 : x / 2 ^ m ≤ x := Int.ediv_le_self _ h.1
  exact ⟨h1, Int.le_trans h2 h.2⟩
def Bytes (l : List Int) : Prop := l.length ≤ 1048576 ∧ ∀ x ∈ l, 0 ≤ x ∧ x ≤ 255
theorem rd_byte {l : List Int} (hl : Bytes l) {i : Int} (h0 : 0 ≤ i) (h1 : i < l.length) : 0 ≤ rd l i ∧ rd l i ≤ 255 := by
  refine hl.2 _ ?_
  unfold rd
  rw [List.getD_eq_getElem?_getD, List.getElem?_eq_getElem (by omega)]
  exact List.getElem_mem _
theorem next_some {l : List Int} (hl : Bytes l) {i : Int} (h0 : 0 ≤ i) (h1 : i ≤ l.length) : ∃ v i', spec_l1Reader_next.f l i = some (v, i') ∧ 0 ≤ v ∧ v ≤ 255 ∧ 0 ≤ i' ∧ i' ≤ l.length := by
  have hn := hl.1
  unfold spec_l1Reader_next.f
  by_cases h : i ≥ (l.length : Int)
  · exact ⟨0, i, by rw [if_pos h], by omega, by omega, h0, h1⟩
  · have hb := rd_byte hl h0 (by omega)
    refine ⟨rd l i, i + 1, ?_, hb.1, hb.2, by omega, by omega⟩
    rw [if_neg h, if_pos h0, if_pos (by omega), w64 (x := rd l i) (by omega) (by omega), w64 (x := i + 1) (by omega) (by omega)]
theorem wide_go {l : List Int} (hl : Bytes l) : ∀ (d k : Nat) (x j i : Int), 8 - j = d → d < k → U x → 0 ≤ j → 0 ≤ i → i ≤ l.length → ∃ r i', spec_l1Reader_wide.l0 k x j l i = some (r, i') ∧ U r ∧ 0 ≤ i' ∧ i' ≤ l.length := by
  intro d
  induction d with
  | zero =>
    intro k x j i hd hk hx hj h0 h1
    obtain ⟨k, rfl⟩ : ∃ m, k = m + 1 := ⟨k - 1, by omega⟩
    exact ⟨x, i, by rw [spec_l1Reader_wide.l0, if_neg (by omega)], hx, h0, h1⟩
  | succ d ih =>
    intro k x j i hd hk hx hj h0 h1
    obtain ⟨k, rfl⟩ : ∃ m, k = m + 1 := ⟨k - 1, by omega⟩
    obtain ⟨v, i', e, _, _, h2, h3⟩ := next_some hl h0 h1
    obtain ⟨r, i2, e2, hr, h4, h5⟩ := ih k (Go.bits .or .u64 (IntKind.u64.wrap (x * 256)) (IntKind.u64.wrap v)) (j + 1) i' (by omega) (by omega) (bitsU _ _ _) (by omega) h2 h3
    refine ⟨r, i2, ?_, hr, h4, h5⟩
    rw [spec_l1Reader_wide.l0, if_pos (by omega), e, Option.bind_some, w64 (x := j + 1) (by omega) (by omega)]
    exact e2
theorem wide_some {l : List Int} (hl : Bytes l) {i : Int} (h0 : 0 ≤ i) (h1 : i ≤ l.length) (k : Nat) (hk : 9 ≤ k) : ∃ r i', spec_l1Reader_wide.f k l i = some (r, i') ∧ U r ∧ 0 ≤ i' ∧ i' ≤ l.length :=
  wide_go hl 8 k 0 0 i (by omega) (by omega) ⟨by omega, by omega⟩ (by omega) h0 h1
theorem S_size {c : Int} (h0 : 0 ≤ c) (h1 : c < 12) : spec_SlotSize.f c = some (sz c) := by
  rcases in12 h0 h1 with rfl | rfl | rfl | rfl | rfl | rfl | rfl | rfl | rfl | rfl | rfl | rfl <;> decide
theorem S_pages {c : Int} (h0 : 0 ≤ c) (h1 : c < 12) (k : Nat) : spec_SlabPages.f (k + 5) c = some (pages c) := by
  unfold spec_SlabPages.f
  rw [S_size h0 h1]
  rcases vals h0 h1 with ⟨rfl, _, b, d, _⟩ | ⟨rfl, _, b, d, _⟩ | ⟨rfl, _, b, d, _⟩ | ⟨rfl, _, b, d, _⟩ | ⟨rfl, _, b, d, _⟩ | ⟨rfl, _, b, d, _⟩ | ⟨rfl, _, b, d, _⟩ | ⟨rfl, _, b, d, _⟩ | ⟨rfl, _, b, d, _⟩ | ⟨rfl, _, b, d, _⟩ | ⟨rfl, _, b, d, _⟩ | ⟨rfl, _, b, d, _⟩ <;>
    (rw [b, d]; simp [spec_SlabPages.l0, wrap64])
theorem S_rpages {c : Int} (h0 : 0 ≤ c) (h1 : c < 12) (k : Nat) : spec_RegionPages.f (k + 5) c = some (rpages c) := by
  unfold spec_RegionPages.f
  rw [S_size h0 h1, S_pages h0 h1]
  have hp := sz_pos h0 h1
  have hb := pages_bd c
  simp only [Option.bind_some]
  rw [if_neg (by omega), w64 (x := pages c + 1) (by omega) (by omega), w64 (x := 6 * (pages c + 1)) (by omega) (by omega)]
  unfold rpages
  rw [if_neg (by omega)]
theorem rsum_next (m : Nat) : rsum (m + 1) = rsum m + rpages (m : Int) := rfl
theorem S_rsum (n : Nat) (hn : n < 12) (k : Nat) : ∀ d m : Nat, m + d = n → spec_RegionStart.l0 (k + 6 + d) n (rsum m) m = some (rsum n) := by
  intro d
  induction d with
  | zero =>
    intro m hm
    obtain rfl : m = n := by omega
    rw [spec_RegionStart.l0]
    rw [if_neg (by omega)]
  | succ d ih =>
    intro m hm
    have hq := rpages_bd m
    have hs := rsum_bd m
    rw [show k + 6 + (d + 1) = (k + 6 + d) + 1 by omega]
    rw [spec_RegionStart.l0]
    rw [if_pos (by omega), show k + 6 + d = (k + 1 + d) + 5 by omega, S_rpages (by omega) (by omega)]
    rw [Option.bind_some]
    have e1 : wrap64 (rsum m + rpages (m : Int)) = rsum m + rpages (m : Int) := w64 (by omega) (by omega)
    have e2 : wrap64 ((m : Int) + 1) = (m : Int) + 1 := w64 (by omega) (by omega)
    have e3 : (m : Int) + 1 = ((m + 1 : Nat) : Int) := by omega
    have h := ih (m + 1) (by omega)
    rw [rsum_next] at h
    rw [e1, e2, e3, show (k + 1 + d) + 5 = k + 6 + d by omega]
    exact h
theorem S_rstart {c : Int} (h0 : 0 ≤ c) (h1 : c < 12) (k : Nat) : spec_RegionStart.f (k + 20) c = some (rstart c) := by
  unfold spec_RegionStart.f
  rw [S_size h0 h1]
  have hp := sz_pos h0 h1
  simp only [Option.bind_some]
  rw [if_neg (by omega), rstart_in h0 h1]
  obtain ⟨n, rfl⟩ := Int.eq_ofNat_of_zero_le h0
  have := S_rsum n (by omega) (k + (14 - n)) n 0 (by omega)
  rw [show k + (14 - n) + 6 + n = k + 20 by omega] at this
  exact this
theorem S_large (k : Nat) : spec_LargeStart.f (k + 20) = some 187 := by
  unfold spec_LargeStart.f
  rw [S_rstart (by omega) (by omega), show k + 20 = (k + 15) + 5 by omega, S_rpages (by omega) (by omega)]
  simp only [Option.bind_some]
  rw [large_val, w64 (by omega) (by omega)]
theorem S_arena (k : Nat) : spec_ArenaPages.f (k + 20) = some 283 := by
  unfold spec_ArenaPages.f
  rw [S_large]
  simp only [Option.bind_some]
  rw [w64 (by omega) (by omega)]
  rfl
theorem S_slots {c : Int} (h0 : 0 ≤ c) (h1 : c < 12) (k : Nat) : spec_SlabSlots.f (k + 5) c = some (slots c) := by
  unfold spec_SlabSlots.f
  rw [S_size h0 h1, S_pages h0 h1]
  rcases vals h0 h1 with ⟨rfl, _, b, d, e, _⟩ | ⟨rfl, _, b, d, e, _⟩ | ⟨rfl, _, b, d, e, _⟩ | ⟨rfl, _, b, d, e, _⟩ | ⟨rfl, _, b, d, e, _⟩ | ⟨rfl, _, b, d, e, _⟩ | ⟨rfl, _, b, d, e, _⟩ | ⟨rfl, _, b, d, e, _⟩ | ⟨rfl, _, b, d, e, _⟩ | ⟨rfl, _, b, d, e, _⟩ | ⟨rfl, _, b, d, e, _⟩ | ⟨rfl, _, b, d, e, _⟩ <;>
    (rw [b, d, e]; simp [wrap64])
theorem S_first {c s : Int} (h0 : 0 ≤ c) (h1 : c < 12) (h2 : 0 ≤ s) (h3 : s < 6) (k : Nat) : spec_l4Slab.f (k + 20) c s = some (first c s) := by
  unfold spec_l4Slab.f
  rw [S_rstart h0 h1, show k + 20 = (k + 15) + 5 by omega, S_pages h0 h1]
  have hb := first_bd h0 h1 h2 h3
  have hp := pages_bd c
  have hr := rstart_bd c
  simp only [Option.bind_some]
  rw [w64 (x := pages c + 1) (by omega) (by omega), w64 (x := s * (pages c + 1)) (by omega) (by omega), w64 (by omega) (by omega)]
  rfl
theorem mods {v : Int} (h : 0 ≤ v) (h' : v ≤ 255) : v.tmod 8 = v % 8 ∧ v.tmod 12 = v % 12 ∧ v.tmod 6 = v % 6 :=
  ⟨Int.tmod_eq_emod_of_nonneg h, Int.tmod_eq_emod_of_nonneg h, Int.tmod_eq_emod_of_nonneg h⟩
theorem address_some {l : List Int} (hl : Bytes l) (k : Nat) (hk : 40 ≤ k) : ∃ r i', spec_l1Reader_address.f k l 0 = some (r, i') ∧ U r := by
  obtain ⟨k, rfl⟩ : ∃ m, k = m + 20 := ⟨k - 20, by omega⟩
  have hn := hl.1
  obtain ⟨v1, i1, e1, a1, b1, c1, d1⟩ := next_some hl (i := 0) (by omega) (by omega)
  obtain ⟨v2, i2, e2, a2, b2, c2, d2⟩ := next_some hl c1 d1
  obtain ⟨v3, i3, e3, a3, b3, c3, d3⟩ := next_some hl c2 d2
  obtain ⟨v4, i4, e4, a4, b4, c4, d4⟩ := next_some hl c3 d3
  obtain ⟨v5, i5, e5, a5, b5, c5, d5⟩ := next_some hl c4 d4
  obtain ⟨v6, i6, e6, a6, _⟩ := wide_some hl c4 d4 (k + 20) (by omega)
  obtain ⟨x1, x2, x3⟩ := mods a1 b1
  obtain ⟨y1, y2, y3⟩ := mods a2 b2
  obtain ⟨z1, z2, z3⟩ := mods a3 b3
  have q0 : 0 ≤ v2 % 12 := by omega
  have q1 : v2 % 12 < 12 := by omega
  have q2 : 0 ≤ v3 % 6 := by omega
  have q3 : v3 % 6 < 6 := by omega
  have hs := slots_pos q0 q1
  have eS := S_slots q0 q1 (k + 15)
  have eP := S_pages q0 q1 (k + 15)
  rw [show k + 15 + 5 = k + 20 by omega] at eS eP
  unfold spec_l1Reader_address.f
  rw [e1, Option.bind_some, e2, Option.bind_some, e3, Option.bind_some]
  dsimp only
  rw [y2, z3, S_first q0 q1 q2 q3, Option.bind_some, e4, Option.bind_some, x1]
  dsimp only
  by_cases g0 : v1 % 8 = 0
  · exact ⟨_, _, by rw [if_pos g0], wrapU _⟩
  rw [if_neg g0]
  by_cases g1 : v1 % 8 = 1
  · exact ⟨_, _, by rw [if_pos g1, eP, Option.bind_some], wrapU _⟩
  rw [if_neg g1]
  by_cases g2 : v1 % 8 = 2
  · exact ⟨_, _, by rw [if_pos g2, eS, Option.bind_some, S_size q0 q1, Option.bind_some], wrapU _⟩
  rw [if_neg g2]
  by_cases g3 : v1 % 8 = 3
  · exact ⟨_, _, by rw [if_pos g3, S_large, Option.bind_some, e5, Option.bind_some], wrapU _⟩
  rw [if_neg g3]
  by_cases g4 : v1 % 8 = 4
  · exact ⟨_, _, by rw [if_pos g4, S_arena, Option.bind_some], wrapU _⟩
  rw [if_neg g4]
  by_cases g5 : v1 % 8 = 5
  · exact ⟨_, _, by rw [if_pos g5, e6, Option.bind_some, if_pos (wrapU _).1], shrU a6 _⟩
  rw [if_neg g5]
  by_cases g6 : v1 % 8 = 6
  · exact ⟨_, _, by rw [if_pos g6, e5, Option.bind_some], wrapU _⟩
  rw [if_neg g6]
  exact ⟨_, _, by rw [e5, Option.bind_some, eS, Option.bind_some, if_neg (by omega), S_size q0 q1, Option.bind_some], wrapU _⟩
def SomeU (w : World) (e : Ending) (w' : World) : Prop := ∃ r : Int, U r ∧ e = .returned (.int .u64 r) ∧ Below w.heap.size w w'
def Some3 (w : World) (e : Ending) (w' : World) : Prop := ∃ a b c : Int, e = .returned (.tuple #[.int .i64 a, .int .i64 b, .int .i64 c]) ∧ Below w.heap.size w w'
set_option maxHeartbeats 400000 in
theorem drawDecode (A : Option Addr) (c : Nat) (l : List Int) (hl : Bytes l) (w : World) (hC : Kd.C (Kd.int .u8) w A l.length l) :
    Calls Tryd.prog 25 #[.slice A l.length c] w (SomeU w) := by
  obtain ⟨r, i, e, hr⟩ := address_some hl 40 (Nat.le_refl _)
  have HE := Lib.hid e
  have HC := Lib.hid hC
  have HU := Lib.hid hr
  clear e hC hr
  go_enter Tryd.func25, Tryd.ntmps25
  go_wp2_with fail
  refine (spec_l1Reader_address.calls 40 w.heap.size l 0 r i w _ (IsS46.new w w A c l 0 (Below.refl _ _) HC.out) ((Below.refl _ w).alloc (Nat.le_refl _) _) HE.out).mono ?_
  rintro e w1 ⟨rfl, hI, hB, _⟩
  go_wp2
  go_ret
  exact ⟨r, HU.out, rfl, hB⟩
set_option maxHeartbeats 1000000 in
theorem drawSlotAddr (A : Option Addr) (c : Nat) (l : List Int) (hl : Bytes l) (w : World) (hC : Kd.C (Kd.int .u8) w A l.length l) :
    Calls Tryd.prog 23 #[.slice A l.length c] w (Some3 w) := by
  obtain ⟨v1, i1, e1, hv1, hv1', h1, h1'⟩ := next_some hl (i := 0) (by omega) (by omega)
  obtain ⟨v2, i2, e2, hv2, hv2', h2, h2'⟩ := next_some hl h1 h1'
  obtain ⟨v3, i3, e3, hv3, hv3', h3, h3'⟩ := next_some hl h2 h2'
  have HE1 := Lib.hid e1
  have HE2 := Lib.hid e2
  have HE3 := Lib.hid e3
  have HC := Lib.hid hC
  clear e1 e2 e3 hC h1 h1' h2 h2' h3 h3'
  go_enter Tryd.func23, Tryd.ntmps23
  go_wp2_with fail
  refine (spec_l1Reader_next.calls w.heap.size l 0 v1 i1 w _ (IsS46.new w w A c l 0 (Below.refl _ _) HC.out) ((Below.refl _ w).alloc (Nat.le_refl _) _) HE1.out).mono ?_
  rintro e w1 ⟨rfl, hI1, hB1, _⟩
  go_wp2_with fail
  refine (spec_l1Reader_next.calls w.heap.size l i1 v2 i2 w _ hI1 hB1 HE2.out).mono ?_
  rintro e w2 ⟨rfl, hI2, hB2, _⟩
  go_wp2_with fail
  refine (spec_l1Reader_next.calls w.heap.size l i2 v3 i3 w _ hI2 hB2 HE3.out).mono ?_
  rintro e w3 ⟨rfl, hI3, hB3, _⟩
  go_wp2
  go_ret3
  exact ⟨_, _, _, rfl, hB3⟩
end Go.Proofs.YtklobepkihdbkaaDoor.DrwP
