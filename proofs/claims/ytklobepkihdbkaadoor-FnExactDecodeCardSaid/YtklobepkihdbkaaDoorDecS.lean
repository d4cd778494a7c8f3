/- The reference's Decode, as printed, gives the plain function 'dec'. No condition beyond the kind's range. -/
import Derived.Test.YtklobepkihdbkaaDoorPFnExactDecodex2
import Derived.Test.YtklobepkihdbkaaDoorPlcFns
namespace Go.Proofs.YtklobepkihdbkaaDoor.DecS
open Go.RowKit Go.Proofs.YtklobepkihdbkaaDoor.PFnExactDecode Go.Proofs.YtklobepkihdbkaaDoorW.PrintWords Go.Proofs.YtklobepkihdbkaaDoorW.PrintLast Cls Plc
set_option linter.unusedVariables false
set_option linter.unusedSimpArgs false
theorem w64 {x : Int} (h : -4611686018427387904 ≤ x) (h' : x ≤ 4611686018427387904) : wrap64 x = x := by unfold wrap64; omega
theorem S_size {c : Int} (h0 : 0 ≤ c) (h1 : c < 12) : spec_SlotSize.f c = some (sz c) := by
  rcases in12 h0 h1 with rfl | rfl | rfl | rfl | rfl | rfl | rfl | rfl | rfl | rfl | rfl | rfl <;> decide
theorem S_pages {c : Int} (h0 : 0 ≤ c) (h1 : c < 12) (k : Nat) : spec_SlabPages.f (k + 5) c = some (pages c) := by
  unfold spec_SlabPages.f
  rw [S_size h0 h1]
  rcases vals h0 h1 with ⟨rfl, _, b, d, _⟩ | ⟨rfl, _, b, d, _⟩ | ⟨rfl, _, b, d, _⟩ | ⟨rfl, _, b, d, _⟩ | ⟨rfl, _, b, d, _⟩ | ⟨rfl, _, b, d, _⟩ | ⟨rfl, _, b, d, _⟩ | ⟨rfl, _, b, d, _⟩ | ⟨rfl, _, b, d, _⟩ | ⟨rfl, _, b, d, _⟩ | ⟨rfl, _, b, d, _⟩ | ⟨rfl, _, b, d, _⟩ <;>
    (rw [b, d]; simp [spec_SlabPages.l0, wrap64])
theorem S_rpages {c : Int} (h0 : 0 ≤ c) (h1 : c < 12) (k : Nat) : spec_RegionPages.f (k + 5) c = some (rpages c) := by
  unfold spec_RegionPages.f
  rw [S_size h0 h1, S_pages h0 h1]
  have hp := sz_pos h0 h1
  have hb := pages_bd c
  simp only [Option.bind_some]
  rw [if_neg (by omega), w64 (x := pages c + 1) (by omega) (by omega), w64 (x := 6 * (pages c + 1)) (by omega) (by omega)]
  unfold rpages
  rw [if_neg (by omega)]
theorem rsum_next (m : Nat) : rsum (m + 1) = rsum m + rpages (m : Int) := rfl
theorem S_rsum (n : Nat) (hn : n < 12) (k : Nat) : ∀ d m : Nat, m + d = n → spec_RegionStart.l0 (k + 6 + d) n (rsum m) m = some (rsum n) := by
  intro d
  induction d with
  | zero =>
    intro m hm
    obtain rfl : m = n := by omega
    rw [spec_RegionStart.l0]
    rw [if_neg (by omega)]
  | succ d ih =>
    intro m hm
    have hq := rpages_bd m
    have hs := rsum_bd m
    rw [show k + 6 + (d + 1) = (k + 6 + d) + 1 by omega]
    rw [spec_RegionStart.l0]
    rw [if_pos (by omega), show k + 6 + d = (k + 1 + d) + 5 by omega, S_rpages (by omega) (by omega)]
    rw [Option.bind_some]
    have e1 : wrap64 (rsum m + rpages (m : Int)) = rsum m + rpages (m : Int) := w64 (by omega) (by omega)
    have e2 : wrap64 ((m : Int) + 1) = (m : Int) + 1 := w64 (by omega) (by omega)
    have e3 : (m : Int) + 1 = ((m + 1 : Nat) : Int) := by omega
    have h := ih (m + 1) (by omega)
    rw [rsum_next] at h
    rw [e1, e2, e3, show (k + 1 + d) + 5 = k + 6 + d by omega]
    exact h
theorem S_rstart {c : Int} (h0 : 0 ≤ c) (h1 : c < 12) (k : Nat) : spec_RegionStart.f (k + 20) c = some (rstart c) := by
  unfold spec_RegionStart.f
  rw [S_size h0 h1]
  have hp := sz_pos h0 h1
  simp only [Option.bind_some]
  rw [if_neg (by omega), rstart_in h0 h1]
  obtain ⟨n, rfl⟩ := Int.eq_ofNat_of_zero_le h0
  have := S_rsum n (by omega) (k + (14 - n)) n 0 (by omega)
  rw [show k + (14 - n) + 6 + n = k + 20 by omega] at this
  exact this
theorem S_large (k : Nat) : spec_LargeStart.f (k + 20) = some 187 := by
  unfold spec_LargeStart.f
  rw [S_rstart (by omega) (by omega), show k + 20 = (k + 15) + 5 by omega, S_rpages (by omega) (by omega)]
  simp only [Option.bind_some]
  rw [large_val, w64 (by omega) (by omega)]
theorem S_arena (k : Nat) : spec_ArenaPages.f (k + 20) = some 283 := by
  unfold spec_ArenaPages.f
  rw [S_large]
  simp only [Option.bind_some]
  rw [w64 (by omega) (by omega)]
  rfl
theorem S_slots {c : Int} (h0 : 0 ≤ c) (h1 : c < 12) (k : Nat) : spec_SlabSlots.f (k + 5) c = some (slots c) := by
  unfold spec_SlabSlots.f
  rw [S_size h0 h1, S_pages h0 h1]
  rcases vals h0 h1 with ⟨rfl, _, b, d, e, _⟩ | ⟨rfl, _, b, d, e, _⟩ | ⟨rfl, _, b, d, e, _⟩ | ⟨rfl, _, b, d, e, _⟩ | ⟨rfl, _, b, d, e, _⟩ | ⟨rfl, _, b, d, e, _⟩ | ⟨rfl, _, b, d, e, _⟩ | ⟨rfl, _, b, d, e, _⟩ | ⟨rfl, _, b, d, e, _⟩ | ⟨rfl, _, b, d, e, _⟩ | ⟨rfl, _, b, d, e, _⟩ | ⟨rfl, _, b, d, e, _⟩ <;>
    (rw [b, d, e]; simp [wrap64])
theorem S_first {c s : Int} (h0 : 0 ≤ c) (h1 : c < 12) (h2 : 0 ≤ s) (h3 : s < 6) (k : Nat) : spec_l4Slab.f (k + 20) c s = some (first c s) := by
  unfold spec_l4Slab.f
  rw [S_rstart h0 h1, show k + 20 = (k + 15) + 5 by omega, S_pages h0 h1]
  have hb := first_bd h0 h1 h2 h3
  have hp := pages_bd c
  have hr := rstart_bd c
  simp only [Option.bind_some]
  rw [w64 (x := pages c + 1) (by omega) (by omega), w64 (x := s * (pages c + 1)) (by omega) (by omega), w64 (by omega) (by omega)]
  rfl
def tup (x : Plce) : Int × Int × Int × Int × Int × Int := (x.k, x.c, x.s, x.j, x.p, x.o)
theorem step_no {a p c s : Int} (h0 : 0 ≤ c) (h1 : c < 12) (h2 : 0 ≤ s) (h3 : s < 6) (h : ¬ InSlab p c s) (k : Nat) : spec_Decode.l1 (k + 22) a p c s = spec_Decode.l1 (k + 20) a p c (s + 1) := by
  have hb := first_bd h0 h1 h2 h3
  have hp := pages_bd c
  rw [show k + 22 = (k + 21) + 1 by omega]
  rw [spec_Decode.l1]
  rw [if_pos h3, show k + 21 = (k + 1) + 20 by omega, S_first h0 h1 h2 h3]
  simp only [Option.bind_some]
  by_cases hlt : p < first c s
  · rw [if_pos hlt, show k + 1 + 20 = (k + 20) + 1 by omega]
    rw [spec_Decode.j2, if_pos rfl]
    rw [w64 (by omega) (by omega)]
  · rw [if_neg hlt, show k + 1 + 20 = (k + 16) + 5 by omega, S_pages h0 h1]
    simp only [Option.bind_some]
    rw [w64 (by omega) (by omega), show k + 16 + 5 = (k + 20) + 1 by omega]
    have hgt : decide (p > first c s + pages c) = true := by
      apply decide_eq_true
      by_cases hh : p > first c s + pages c
      · exact hh
      · exact absurd ⟨h0, h1, h2, h3, by omega, by omega⟩ h
    rw [hgt]
    rw [spec_Decode.j2, if_pos rfl]
    rw [w64 (by omega) (by omega)]
theorem step_six {a p c : Int} (h1 : 0 ≤ c) (h2 : c < 12) (k : Nat) : spec_Decode.l1 (k + 1) a p c 6 = spec_Decode.l0 k a p (c + 1) := by
  rw [spec_Decode.l1]
  rw [if_neg (by omega), w64 (by omega) (by omega)]
theorem step_cls {a p c : Int} (h2 : c < 12) (k : Nat) : spec_Decode.l0 (k + 1) a p c = spec_Decode.l1 k a p c 0 := by
  rw [spec_Decode.l0]
  rw [if_pos h2]
/-- A class none of whose slabs holds the page is passed over. -/
theorem pass {a p c : Int} (h0 : 0 ≤ c) (h1 : c < 12) (h : ∀ s, ¬ InSlab p c s) (k : Nat) : spec_Decode.l0 (k + 34) a p c = spec_Decode.l0 (k + 20) a p (c + 1) := by
  rw [show k + 34 = (k + 33) + 1 by omega, step_cls h1, show k + 33 = (k + 11) + 22 by omega, step_no h0 h1 (by omega) (by omega) (h 0), show k + 11 + 20 = (k + 9) + 22 by omega, step_no h0 h1 (by omega) (by omega) (h _),
    show k + 9 + 20 = (k + 7) + 22 by omega, step_no h0 h1 (by omega) (by omega) (h _), show k + 7 + 20 = (k + 5) + 22 by omega, step_no h0 h1 (by omega) (by omega) (h _),
    show k + 5 + 20 = (k + 3) + 22 by omega, step_no h0 h1 (by omega) (by omega) (h _), show k + 3 + 20 = (k + 1) + 22 by omega, step_no h0 h1 (by omega) (by omega) (h _), show k + 1 + 20 = (k + 20) + 1 by omega]
  exact step_six h0 h1 (k + 20)
theorem hit {a c s : Int} (ha : 0 ≤ a) (ha' : a < 187 * 1024) (h : InSlab (a / 1024) c s) (k : Nat) :
    spec_Decode.l1 (k + 22) a (a / 1024) c s = some (tup (if pages c * 1024 ≤ a - first c s * 1024 then ⟨1, c, s, 0, 0, 0⟩ else if slots c * sz c ≤ a - first c s * 1024 then ⟨2, c, s, 0, 0, a - first c s * 1024 - slots c * sz c⟩
      else ⟨3, c, s, (a - first c s * 1024) / sz c, 0, (a - first c s * 1024) % sz c⟩)) := by
  obtain ⟨h0, h1, h2, h3, h4, h5⟩ := h
  have hb := first_bd h0 h1 h2 h3
  have hp := pages_bd c
  have hp1 := pages_pos h0 h1
  have hz := sz_pos h0 h1
  have hs := slots_bd c
  have hf1 : 0 ≤ slots c * sz c := Int.mul_nonneg hs.1 (by omega)
  have hf2 := slots_fit c
  rw [show k + 22 = (k + 21) + 1 by omega]
  rw [spec_Decode.l1]
  rw [if_pos h3, show k + 21 = (k + 1) + 20 by omega, S_first h0 h1 h2 h3]
  simp only [Option.bind_some]
  rw [if_neg (by omega), show k + 1 + 20 = (k + 16) + 5 by omega, S_pages h0 h1]
  simp only [Option.bind_some]
  have hgt : decide (a / 1024 > first c s + pages c) = false := decide_eq_false (by omega)
  rw [w64 (x := first c s + pages c) (by omega) (by omega), hgt, show k + 16 + 5 = (k + 20) + 1 by omega]
  rw [spec_Decode.j2, if_neg (by simp)]
  rw [S_size h0 h1]
  simp only [Option.bind_some]
  rw [if_neg (by omega), show k + 20 = (k + 15) + 5 by omega, S_pages h0 h1, S_slots h0 h1]
  simp only [Option.bind_some]
  rw [w64 (x := first c s + pages c) (by omega) (by omega), w64 (x := first c s * 1024) (by omega) (by omega), w64 (x := a - first c s * 1024) (by omega) (by omega)]
  by_cases g1 : a / 1024 = first c s + pages c
  · rw [if_pos g1, if_pos (by omega)]
    rfl
  · rw [if_neg g1, if_neg (show ¬ pages c * 1024 ≤ a - first c s * 1024 by omega)]
    have hn : 0 ≤ a - first c s * 1024 := by omega
    have hd : (a - first c s * 1024).tdiv (sz c) = (a - first c s * 1024) / sz c := Int.tdiv_eq_ediv_of_nonneg hn
    have hm : (a - first c s * 1024).tmod (sz c) = (a - first c s * 1024) % sz c := Int.tmod_eq_emod_of_nonneg hn
    have hd0 : 0 ≤ (a - first c s * 1024) / sz c := Int.ediv_nonneg hn (by omega)
    have hd1 : (a - first c s * 1024) / sz c ≤ a - first c s * 1024 := Int.ediv_le_self _ hn
    have hge : (a - first c s * 1024) / sz c ≥ slots c ↔ slots c * sz c ≤ a - first c s * 1024 := Int.le_ediv_iff_mul_le (by omega)
    rw [hd, hm, w64 (x := (a - first c s * 1024) / sz c) (by omega) (by omega)]
    by_cases g2 : slots c * sz c ≤ a - first c s * 1024
    · rw [if_pos (hge.2 g2), if_pos g2, w64 (x := slots c * sz c) (by omega) (by omega), w64 (by omega) (by omega)]
      rfl
    · rw [if_neg (fun h => g2 (hge.1 h)), if_neg g2, if_neg (by omega)]
      rfl
theorem find {a c s : Int} (ha : 0 ≤ a) (ha' : a < 187 * 1024) (h : InSlab (a / 1024) c s) (m : Nat) : ∀ d k : Nat, (s : Int) - m = d → m ≤ 6 → spec_Decode.l1 (k + 22 + 2 * d) a (a / 1024) c m = spec_Decode.l1 (k + 22) a (a / 1024) c s := by
  intro d
  induction d generalizing m with
  | zero =>
    intro k hd _
    obtain rfl : (m : Int) = s := by omega
    rfl
  | succ d ih =>
    intro k hd hm
    have hs := h.2.2.2.1
    rw [show k + 22 + 2 * (d + 1) = (k + 2 * d + 2) + 22 by omega, step_no h.1 h.2.1 (by omega) (by omega) (fun h' => by have := (loc_one h h').2; omega)]
    rw [show k + 2 * d + 2 + 20 = k + 22 + 2 * d by omega]
    exact ih (m + 1) k (by omega) (by omega)
theorem find_cls {a c s : Int} (ha : 0 ≤ a) (ha' : a < 187 * 1024) (h : InSlab (a / 1024) c s) : ∀ d k m : Nat, (c : Int) - m = d → spec_Decode.l0 (k + 34 + 14 * d) a (a / 1024) m = spec_Decode.l0 (k + 34) a (a / 1024) c := by
  intro d
  induction d with
  | zero =>
    intro k m hd
    obtain rfl : (m : Int) = c := by omega
    rfl
  | succ d ih =>
    intro k m hd
    have hc := h.2.1
    rw [show k + 34 + 14 * (d + 1) = (k + 14 * d + 14) + 34 by omega, pass (by omega) (by omega) (fun s' h' => by have := (loc_one h h').1; omega)]
    rw [show k + 14 * d + 14 + 20 = k + 34 + 14 * d by omega]
    exact ih k (m + 1) (by omega)
theorem none_all {a : Int} : ∀ d k m : Nat, (12 : Int) - m = d → spec_Decode.l0 (k + 34 + 14 * d) a 0 m = some (1, 0, 0, 0, 0, 0) := by
  intro d
  induction d with
  | zero =>
    intro k m hd
    obtain rfl : m = 12 := by omega
    rw [show k + 34 + 14 * 0 = (k + 33) + 1 by omega]
    rw [spec_Decode.l0]
    rw [if_neg (by omega)]
  | succ d ih =>
    intro k m hd
    rw [show k + 34 + 14 * (d + 1) = (k + 14 * d + 14) + 34 by omega, pass (by omega) (by omega) (fun s' h' => by
      obtain ⟨h0, h1, h2, h3, h4, _⟩ := h'
      have := first_bd h0 h1 h2 h3
      omega)]
    rw [show k + 14 * d + 14 + 20 = k + 34 + 14 * d by omega]
    exact ih k (m + 1) (by omega)
theorem wu {x : Int} (h : 0 ≤ x) (h' : x ≤ 4611686018427387904) : IntKind.u64.wrap x = x := by rw [IntKind.wrap_u64]; omega
theorem decode_is {a : Int} (h0 : 0 ≤ a) (hU : a ≤ 18446744073709551615) (k : Nat) (hk : 1000 ≤ k) : spec_Decode.f k a = some (tup (dec a)) := by
  obtain ⟨k, rfl⟩ : ∃ m, k = m + 400 := ⟨k - 400, by omega⟩
  unfold spec_Decode.f
  rw [show k + 400 = (k + 380) + 20 by omega, S_arena, S_large]
  simp only [Option.bind_some]
  rw [w64 (x := 283 * 1024) (by omega) (by omega), wu (x := 283 * 1024) (by omega) (by omega)]
  unfold dec
  by_cases h1 : 283 ≤ a / 1024
  · rw [if_pos (by omega), if_pos h1]
    rfl
  · rw [if_neg (by omega), if_neg h1, w64 (x := a) (by omega) (by omega)]
    have hd : a.tdiv 1024 = a / 1024 := Int.tdiv_eq_ediv_of_nonneg h0
    have hm : a.tmod 1024 = a % 1024 := Int.tmod_eq_emod_of_nonneg h0
    rw [hd, hm, w64 (x := a / 1024) (by omega) (by omega)]
    by_cases h2 : 187 ≤ a / 1024
    · rw [if_pos h2, if_pos h2, w64 (by omega) (by omega)]
      rfl
    · rw [if_neg (by omega), if_neg h2]
      by_cases h3 : a < 1024
      · rw [if_pos h3, show a / 1024 = 0 by omega]
        have := none_all (a := a) 12 (k + 198) 0 (by omega)
        rw [show k + 198 + 34 + 14 * 12 = k + 380 + 20 by omega] at this
        exact this
      · rw [if_neg h3]
        obtain ⟨hl, ho, _, _⟩ := at_loc (a := a) (by omega) (by omega)
        have hc := hl
        obtain ⟨c0, c1, s0, s1, _, _⟩ := hc
        have e1 := find_cls h0 (by omega) hl (cAt a).toNat (k + 366 - 14 * (cAt a).toNat) 0 (by omega)
        rw [show k + 366 - 14 * (cAt a).toNat + 34 + 14 * (cAt a).toNat = k + 380 + 20 by omega] at e1
        have e2 := find h0 (by omega) hl 0 (sAt a).toNat (k + 366 - 14 * (cAt a).toNat + 11 - 2 * (sAt a).toNat) (by omega) (by omega)
        rw [show k + 366 - 14 * (cAt a).toNat + 11 - 2 * (sAt a).toNat + 22 + 2 * (sAt a).toNat = k + 366 - 14 * (cAt a).toNat + 33 by omega] at e2
        have e3 := step_cls (a := a) (p := a / 1024) c1 (k + 366 - 14 * (cAt a).toNat + 33)
        have e4 := hit h0 (by omega) hl (k + 366 - 14 * (cAt a).toNat + 11 - 2 * (sAt a).toNat)
        have e0 : ((0 : Nat) : Int) = 0 := rfl
        rw [e0] at e1 e2
        rw [e1, show k + 366 - 14 * (cAt a).toNat + 34 = k + 366 - 14 * (cAt a).toNat + 33 + 1 by omega, e3, e2, e4]
        unfold decS
        rw [ho]
end Go.Proofs.YtklobepkihdbkaaDoor.DecS
