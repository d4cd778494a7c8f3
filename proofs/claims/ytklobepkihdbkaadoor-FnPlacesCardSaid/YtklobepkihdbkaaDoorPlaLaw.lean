/- The walk of FnPlaces: it returns true. Condition: the table of sizes is the text's. -/
import Derived.Test.YtklobepkihdbkaaDoorPlc
import Derived.Test.YtklobepkihdbkaaDoorPlcSpec
import Derived.Test.YtklobepkihdbkaaDoorClsSpec
import Derived.Test.YtklobepkihdbkaaDoorDrwP
import Derived.Test.YtklobepkihdbkaaDoorPlaP
import Derived.OpenShut
import Derived.Deep.QuietTactic
import Derived.BigQuiet
namespace Go.Proofs.YtklobepkihdbkaaDoor.PlaLaw
open Go.RowKit Go.Proofs.YtklobepkihdbkaaDoorW.PrintWords Cls Plc PlaP
set_option linter.unusedVariables false
set_option linter.unusedSimpArgs false
theorem bstep {w w1 w2 : World} (h : Below w.heap.size w w1) (h' : Below w1.heap.size w1 w2) : Below w.heap.size w w2 := h.trans (h'.mono h.size)
theorem bcell {W w1 : World} (hb : Below W.heap.size W w1) : (∀ b o, b < W.heap.size → w1.cell? ⟨b, o, none⟩ = W.cell? ⟨b, o, none⟩) ∧ (∀ b o, b < W.heap.size → w1.frozen? ⟨b, o, none⟩ = W.frozen? ⟨b, o, none⟩) :=
  ⟨fun b o h => hb.cell (p := ⟨b, o, none⟩) h, fun b o h => hb.frozen (p := ⟨b, o, none⟩) h⟩
theorem balloc {w w1 : World} (h : Below w.heap.size w w1) (o : Obj) : Below w.heap.size w (w1.alloc o) := h.alloc h.size o
theorem bdrewN {B : Nat} {a w : World} (h : Below B a w) (n : Nat) : Below B a (w.drewN n) := ⟨h.os, h.tape, h.output, h.size, h.block⟩
theorem qback {P : Program} {f : FuncId} {args : Array Value} {w : World} {n : Nat} {v : Value} (h : Calls P f args (w.drewN n) fun e w' => e = .returned v ∧ w.drewN n = w') : Calls P f args (w.drewN n) fun e w'' => e = .returned v ∧ ∃ m, w'' = w.drewN m :=
  h.mono fun _ _ ⟨he, hm⟩ => ⟨he, n, hm.symm⟩
theorem wi {x : Int} (h : -4611686018427387904 ≤ x) (h' : x ≤ 4611686018427387904) : IntKind.i64.wrap x = x := by rw [IntKind.wrap_i64]; omega
theorem wu {x : Int} (h : 0 ≤ x) (h' : x ≤ 4611686018427387904) : IntKind.u64.wrap x = x := by rw [IntKind.wrap_u64]; omega
theorem implDecode (a k c s j p o : Int) (h : dec a = ⟨k, c, s, j, p, o⟩) (w : World) (ht : Laid.Table w) (h0 : 0 ≤ a) (hU : a ≤ 18446744073709551615) :
    Calls Tryd.prog 21 #[.int .u64 a] w fun e w' => e = .returned (.agg #[.int .i64 k, .int .i64 c, .int .i64 s, .int .i64 j, .int .i64 p, .int .i64 o]) ∧ Below w.heap.size w w' := by
  have := Plc.decode a w ht h0 hU
  rw [h] at this
  exact this
set_option maxHeartbeats 4000000 in
set_option maxRecDepth 100000 in
theorem places_law {w : World} (A : Option Addr) (c : Nat) (l : List Int) (hC : Kd.C (Kd.int .u8) w A l.length l) (hc : l.length ≤ c) (hwf : ∀ x ∈ l, (Lit.int .u8 x).wf = true) (hy : l.length * 1 ≤ 140737488351232) (ht : Laid.Table w) :
    Calls Tryd.prog 7 #[.slice A l.length c] w fun e w' => e = .returned (.bool true) ∧ Below w.heap.size w w' := by
  by_cases hbig : 1048576 < l.length
  · go_enter Tryd.func7, Tryd.ntmps7
    go_wp2
    go_ret
    exact ⟨rfl, Below.refl _ _⟩
  have hl : DrwP.Bytes l := ⟨by omega, fun x hx => bounds_u8 (hwf x hx)⟩
  have hn : l.length ≤ 1048576 := by omega
  have HC := Lib.hid hC
  have HT0 := Lib.hid ht
  clear hC hwf hbig ht
  go_enter Tryd.func7, Tryd.ntmps7
  go_wp2_with fail
  refine (DrwP.drawSlotAddr _ _ _ hl _ HC.out).mono ?_
  rintro e w1 ⟨c1, s1, j1, rfl, hw1⟩
  have hB1 := Lib.hid hw1
  have HT1 := Lib.hid (HT0.out.below hB1.out HT0.out.lt)
  clear hw1
  by_cases hs : Slot c1 s1 j1
  · have HS := Lib.hid hs
    go_wp2_with fail
    refine (Plc.slotAddr_yes _ _ _ _ HT1.out HS.out).mono ?_; rintro e w' ⟨rfl, rfl⟩
    go_wp2_with fail
    refine (PlcS.slotAddr_yes _ _ _ _ HS.out).mono ?_; rintro e w2 ⟨rfl, hw2⟩
    have hB2 := Lib.hid (bstep hB1.out hw2)
    have HT2 := Lib.hid (HT0.out.below hB2.out HT0.out.lt)
    clear hw2
    obtain ⟨ha1, ha2⟩ := addr_bd hs
    obtain ⟨hz1, hz2⟩ := sz_pos hs.1 hs.2.1
    have HA := Lib.hid (by have := dec_slot hs (o := 0) (by omega) (by omega); rwa [Int.add_zero] at this)
    have HE := Lib.hid (by have := dec_slot hs (o := sz c1 - 1) (by omega) (by omega); rwa [← Int.add_sub_assoc] at this)
    clear hs
    go_wp2_with fail
    refine (Cls.slotSize _ _ HT2.out).mono ?_; rintro e w' ⟨rfl, rfl⟩
    go_wp2_with fail
    refine (ClsS.slotSize _ _).mono ?_; rintro e w3 ⟨rfl, hw3⟩
    have hB3 := Lib.hid (bstep hB2.out hw3)
    have HT3 := Lib.hid (HT0.out.below hB3.out HT0.out.lt)
    clear hw3
    go_wp2_with fail
    refine (implDecode _ _ _ _ _ _ _ HA.out _ HT3.out (by omega) (by omega)).mono ?_; rintro e w4 ⟨rfl, hw4⟩
    have hB4 := Lib.hid (bstep hB3.out hw4)
    have hz4 := hw4.size
    clear hw4
    go_wp2_with fail
    refine (implDecode _ _ _ _ _ _ _ HE.out _ (HT0.out.below (by first | exact hB4.out | exact balloc hB4.out _) HT0.out.lt) (by omega) (by omega)).mono ?_; rintro e w5 ⟨rfl, hw5⟩
    have hB5 := Lib.hid (bstep (by first | exact hB4.out | exact balloc hB4.out _) hw5)
    have hz5 := hw5.size
    clear hw5
    go_wp2_with fail
    refine (DrwP.drawDecode _ _ _ hl _ (Kd.C_below HC.out hB5.out)).mono ?_
    rintro e wx ⟨x, hxu, rfl, hwx⟩
    have hBx := Lib.hid (bstep hB5.out hwx)
    have HTx := Lib.hid (HT0.out.below hBx.out HT0.out.lt)
    have hx0 : 0 ≤ x := hxu.1
    have hxU := Lib.hid hxu.2
    have hxV := hxu.2
    have hAt := at_of hx0
    clear hxu hwx
    go_wp2_with fail
    rcases hAt with ⟨e, h⟩ | ⟨e, h, h'⟩ | ⟨e, h⟩ | ⟨c2, s2, hs2, e, h, h'⟩ | ⟨c2, s2, o2, hs2, e, h0, h1, h, h'⟩ | ⟨c2, s2, j2, o2, hs2, e, h0, h1, h⟩
    · have HX := Lib.hid e
      clear e
      refine (implDecode _ _ _ _ _ _ _ HX.out _ HTx.out hx0 hxU.out).mono ?_; rintro e wd ⟨rfl, hwd⟩
      have hBd := Lib.hid (bstep hBx.out hwd)
      clear hwd
      go_wp2_with fail
      refine (ClsS.arenaPages _).mono ?_; rintro e wz ⟨rfl, hwz⟩
      have hBz := Lib.hid (bstep (balloc hBd.out _) hwz)
      clear hwz
      go_wp2
      go_ret
      exact ⟨by simp, hBz.out⟩
    · have y1 : 0 ≤ x / 1024 := by omega
      have y2 : x / 1024 ≤ 18014398509481983 := by have := hxU.out; omega
      have y3 : 0 ≤ x % 1024 := by omega
      have y4 : x % 1024 < 1024 := by omega
      have HX := Lib.hid e
      clear e
      refine (implDecode _ _ _ _ _ _ _ HX.out _ HTx.out hx0 hxU.out).mono ?_; rintro e wd ⟨rfl, hwd⟩
      have hBd := Lib.hid (bstep hBx.out hwd)
      have HTd : ∀ o, Laid.Table (wd.alloc o) := fun o => HT0.out.below (balloc hBd.out o) HT0.out.lt
      have HTe : ∀ o n, Laid.Table ((wd.alloc o).drewN n) := fun o n => HT0.out.below (bdrewN (balloc hBd.out o) n) HT0.out.lt
      clear hwd
      go_wp2_with (first | (go_at_call 26; refine (Cls.largeStart _ (by first | exact HTd _ | exact HTe _)).mono ?_; rintro e w' ⟨rfl, rfl⟩) | (go_at_call 27; refine (Cls.regionStart _ _ (by first | exact HTd _ | exact HTe _)).mono ?_; rintro e w' ⟨rfl, rfl⟩) | (go_at_call 17; refine (Cls.slabPages _ _ (by first | exact HTd _ | exact HTe _)).mono ?_; rintro e w' ⟨rfl, rfl⟩) | (go_at_call 11; refine (Plc.slotAddr_yes _ _ _ _ (by first | exact HTd _ | exact HTe _) HS2.out).mono ?_; rintro e w' ⟨rfl, rfl⟩) | (go_at_call 16; refine (Cls.slabSlots _ _ (by first | exact HTd _ | exact HTe _)).mono ?_; rintro e w' ⟨rfl, rfl⟩) | (go_at_call 15; refine (Cls.slotSize _ _ (by first | exact HTd _ | exact HTe _)).mono ?_; rintro e w' ⟨rfl, rfl⟩))
      have k2 : x / 1024 - 187 < 96 := by omega
      have e1 : IntKind.i64.wrap (187 + (x / 1024 - 187)) = x / 1024 := by rw [wi (by omega) (by omega)]; omega
      go_quiet (first | (go_at_call 26; exact qback (Cls.largeStart _ (HTe _ _))) | (go_at_call 27; exact qback (Cls.regionStart _ _ (HTe _ _))) | (go_at_call 17; exact qback (Cls.slabPages _ _ (HTe _ _))) | (go_at_call 11; exact qback (Plc.slotAddr_yes _ _ _ _ (HTe _ _) HS2.out)) | (go_at_call 16; exact qback (Cls.slabSlots _ _ (HTe _ _))) | (go_at_call 15; exact qback (Cls.slotSize _ _ (HTe _ _))))
      go_wp2
      go_ret
      exact ⟨by first | (simp; done) | (simp [e9]; done) | (simp [e5]; done), bdrewN (balloc hBd.out _) _⟩
    · have y0 : x / 1024 = 0 := by omega
      have HX := Lib.hid e
      clear e
      refine (implDecode _ _ _ _ _ _ _ HX.out _ HTx.out hx0 hxU.out).mono ?_; rintro e wd ⟨rfl, hwd⟩
      have hBd := Lib.hid (bstep hBx.out hwd)
      have HTd : ∀ o, Laid.Table (wd.alloc o) := fun o => HT0.out.below (balloc hBd.out o) HT0.out.lt
      have HTe : ∀ o n, Laid.Table ((wd.alloc o).drewN n) := fun o n => HT0.out.below (bdrewN (balloc hBd.out o) n) HT0.out.lt
      clear hwd
      go_wp2_with (first | (go_at_call 26; refine (Cls.largeStart _ (by first | exact HTd _ | exact HTe _)).mono ?_; rintro e w' ⟨rfl, rfl⟩) | (go_at_call 27; refine (Cls.regionStart _ _ (by first | exact HTd _ | exact HTe _)).mono ?_; rintro e w' ⟨rfl, rfl⟩) | (go_at_call 17; refine (Cls.slabPages _ _ (by first | exact HTd _ | exact HTe _)).mono ?_; rintro e w' ⟨rfl, rfl⟩) | (go_at_call 11; refine (Plc.slotAddr_yes _ _ _ _ (by first | exact HTd _ | exact HTe _) HS2.out).mono ?_; rintro e w' ⟨rfl, rfl⟩) | (go_at_call 16; refine (Cls.slabSlots _ _ (by first | exact HTd _ | exact HTe _)).mono ?_; rintro e w' ⟨rfl, rfl⟩) | (go_at_call 15; refine (Cls.slotSize _ _ (by first | exact HTd _ | exact HTe _)).mono ?_; rintro e w' ⟨rfl, rfl⟩))
      go_quiet (first | (go_at_call 26; exact qback (Cls.largeStart _ (HTe _ _))) | (go_at_call 27; exact qback (Cls.regionStart _ _ (HTe _ _))) | (go_at_call 17; exact qback (Cls.slabPages _ _ (HTe _ _))) | (go_at_call 11; exact qback (Plc.slotAddr_yes _ _ _ _ (HTe _ _) HS2.out)) | (go_at_call 16; exact qback (Cls.slabSlots _ _ (HTe _ _))) | (go_at_call 15; exact qback (Cls.slotSize _ _ (HTe _ _))))
      go_wp2
      go_ret
      exact ⟨by first | (simp; done) | (simp [e9]; done) | (simp [e5]; done), bdrewN (balloc hBd.out _) _⟩
    · have HS2 := Lib.hid hs2
      obtain ⟨hs0, hs1, hs3, hs4, hs5, hs6⟩ := hs2
      obtain ⟨u1, u2, u3, u4⟩ := first_bd hs0 hs1 hs3 hs4
      obtain ⟨p1, p2⟩ := pages_bd c2
      obtain ⟨r1, r2⟩ := rstart_bd c2
      obtain ⟨n1, n2⟩ := slots_bd c2
      obtain ⟨z1, z2⟩ := sz_pos hs0 hs1
      have y1 : 0 ≤ x / 1024 := by omega
      have y2 : x / 1024 ≤ 18014398509481983 := by have := hxU.out; omega
      have y3 : 0 ≤ x % 1024 := by omega
      have y4 : x % 1024 < 1024 := by omega
      have HX := Lib.hid e
      clear e
      refine (implDecode _ _ _ _ _ _ _ HX.out _ HTx.out hx0 hxU.out).mono ?_; rintro e wd ⟨rfl, hwd⟩
      have hBd := Lib.hid (bstep hBx.out hwd)
      have HTd : ∀ o, Laid.Table (wd.alloc o) := fun o => HT0.out.below (balloc hBd.out o) HT0.out.lt
      have HTe : ∀ o n, Laid.Table ((wd.alloc o).drewN n) := fun o n => HT0.out.below (bdrewN (balloc hBd.out o) n) HT0.out.lt
      clear hwd
      go_wp2_with (first | (go_at_call 26; refine (Cls.largeStart _ (by first | exact HTd _ | exact HTe _)).mono ?_; rintro e w' ⟨rfl, rfl⟩) | (go_at_call 27; refine (Cls.regionStart _ _ (by first | exact HTd _ | exact HTe _)).mono ?_; rintro e w' ⟨rfl, rfl⟩) | (go_at_call 17; refine (Cls.slabPages _ _ (by first | exact HTd _ | exact HTe _)).mono ?_; rintro e w' ⟨rfl, rfl⟩) | (go_at_call 11; refine (Plc.slotAddr_yes _ _ _ _ (by first | exact HTd _ | exact HTe _) HS2.out).mono ?_; rintro e w' ⟨rfl, rfl⟩) | (go_at_call 16; refine (Cls.slabSlots _ _ (by first | exact HTd _ | exact HTe _)).mono ?_; rintro e w' ⟨rfl, rfl⟩) | (go_at_call 15; refine (Cls.slotSize _ _ (by first | exact HTd _ | exact HTe _)).mono ?_; rintro e w' ⟨rfl, rfl⟩))
      have k0 : ¬ x / 1024 = 0 := by omega
      have k1 : (x / 1024 == 0) = false := by rw [beq_eq_false_iff_ne]; exact k0
      have e1 : IntKind.i64.wrap (s2 + 1) = s2 + 1 := wi (by omega) (by omega)
      have e2 : IntKind.i64.wrap (pages c2 + 1) = pages c2 + 1 := wi (by omega) (by omega)
      have hq : (s2 + 1) * (pages c2 + 1) = s2 * (pages c2 + 1) + (pages c2 + 1) := by rw [Int.add_mul, Int.one_mul]
      have e3 : IntKind.i64.wrap ((s2 + 1) * (pages c2 + 1)) = (s2 + 1) * (pages c2 + 1) := wi (by omega) (by omega)
      have e4 : IntKind.i64.wrap (rstart c2 + (s2 + 1) * (pages c2 + 1)) = rstart c2 + (s2 + 1) * (pages c2 + 1) := wi (by omega) (by omega)
      have e5 : rstart c2 + (s2 + 1) * (pages c2 + 1) - 1 = x / 1024 := h.symm
      have HH := Lib.hid h
      clear hq h
      go_quiet (first | (go_at_call 26; exact qback (Cls.largeStart _ (HTe _ _))) | (go_at_call 27; exact qback (Cls.regionStart _ _ (HTe _ _))) | (go_at_call 17; exact qback (Cls.slabPages _ _ (HTe _ _))) | (go_at_call 11; exact qback (Plc.slotAddr_yes _ _ _ _ (HTe _ _) HS2.out)) | (go_at_call 16; exact qback (Cls.slabSlots _ _ (HTe _ _))) | (go_at_call 15; exact qback (Cls.slotSize _ _ (HTe _ _))))
      go_wp2
      go_ret
      exact ⟨by first | (simp; done) | (simp [e9]; done) | (simp [e5]; done), bdrewN (balloc hBd.out _) _⟩
    · have HS2 := Lib.hid hs2
      obtain ⟨v1, v2⟩ := addr_bd hs2
      obtain ⟨hs0, hs1, hs3, hs4, hs5, hs6⟩ := hs2
      obtain ⟨u1, u2, u3, u4⟩ := first_bd hs0 hs1 hs3 hs4
      obtain ⟨p1, p2⟩ := pages_bd c2
      obtain ⟨r1, r2⟩ := rstart_bd c2
      obtain ⟨n1, n2⟩ := slots_bd c2
      obtain ⟨z1, z2⟩ := sz_pos hs0 hs1
      have y1 : 0 ≤ x / 1024 := by omega
      have y2 : x / 1024 ≤ 18014398509481983 := by have := hxU.out; omega
      have y3 : 0 ≤ x % 1024 := by omega
      have y4 : x % 1024 < 1024 := by omega
      have HX := Lib.hid e
      clear e
      refine (implDecode _ _ _ _ _ _ _ HX.out _ HTx.out hx0 hxU.out).mono ?_; rintro e wd ⟨rfl, hwd⟩
      have hBd := Lib.hid (bstep hBx.out hwd)
      have HTd : ∀ o, Laid.Table (wd.alloc o) := fun o => HT0.out.below (balloc hBd.out o) HT0.out.lt
      have HTe : ∀ o n, Laid.Table ((wd.alloc o).drewN n) := fun o n => HT0.out.below (bdrewN (balloc hBd.out o) n) HT0.out.lt
      clear hwd
      go_wp2_with (first | (go_at_call 26; refine (Cls.largeStart _ (by first | exact HTd _ | exact HTe _)).mono ?_; rintro e w' ⟨rfl, rfl⟩) | (go_at_call 27; refine (Cls.regionStart _ _ (by first | exact HTd _ | exact HTe _)).mono ?_; rintro e w' ⟨rfl, rfl⟩) | (go_at_call 17; refine (Cls.slabPages _ _ (by first | exact HTd _ | exact HTe _)).mono ?_; rintro e w' ⟨rfl, rfl⟩) | (go_at_call 11; refine (Plc.slotAddr_yes _ _ _ _ (by first | exact HTd _ | exact HTe _) HS2.out).mono ?_; rintro e w' ⟨rfl, rfl⟩) | (go_at_call 16; refine (Cls.slabSlots _ _ (by first | exact HTd _ | exact HTe _)).mono ?_; rintro e w' ⟨rfl, rfl⟩) | (go_at_call 15; refine (Cls.slotSize _ _ (by first | exact HTd _ | exact HTe _)).mono ?_; rintro e w' ⟨rfl, rfl⟩))
      have e1 : IntKind.i64.wrap (s2 + 1) = s2 + 1 := wi (by omega) (by omega)
      have e2 : IntKind.i64.wrap (pages c2 + 1) = pages c2 + 1 := wi (by omega) (by omega)
      have hq : (s2 + 1) * (pages c2 + 1) = s2 * (pages c2 + 1) + (pages c2 + 1) := by rw [Int.add_mul, Int.one_mul]
      have e3 : IntKind.i64.wrap ((s2 + 1) * (pages c2 + 1)) = (s2 + 1) * (pages c2 + 1) := wi (by omega) (by omega)
      have e4 : IntKind.i64.wrap (rstart c2 + (s2 + 1) * (pages c2 + 1)) = rstart c2 + (s2 + 1) * (pages c2 + 1) := wi (by omega) (by omega)
      have e5 : IntKind.i64.wrap (rstart c2 + (s2 + 1) * (pages c2 + 1) - 1) = rstart c2 + (s2 + 1) * (pages c2 + 1) - 1 := wi (by omega) (by omega)
      have f0 := Int.mul_nonneg n1 (show 0 ≤ sz c2 by omega)
      have f1 := slots_fit c2
      have e6 : IntKind.i64.wrap (slots c2 * sz c2) = slots c2 * sz c2 := wi (by omega) (by omega)
      have e7 : IntKind.i64.wrap (slots c2 * sz c2 + o2) = slots c2 * sz c2 + o2 := wi (by omega) (by omega)
      have e8 : IntKind.u64.wrap (slots c2 * sz c2 + o2) = slots c2 * sz c2 + o2 := wu (by omega) (by omega)
      have e9 : addr c2 s2 0 + (slots c2 * sz c2 + o2) = x := h.symm
      clear hq f0 f1
      have HH := Lib.hid h
      clear h
      go_quiet (first | (go_at_call 26; exact qback (Cls.largeStart _ (HTe _ _))) | (go_at_call 27; exact qback (Cls.regionStart _ _ (HTe _ _))) | (go_at_call 17; exact qback (Cls.slabPages _ _ (HTe _ _))) | (go_at_call 11; exact qback (Plc.slotAddr_yes _ _ _ _ (HTe _ _) HS2.out)) | (go_at_call 16; exact qback (Cls.slabSlots _ _ (HTe _ _))) | (go_at_call 15; exact qback (Cls.slotSize _ _ (HTe _ _))))
      go_wp2
      go_ret
      exact ⟨by first | (simp; done) | (simp [e9]; done) | (simp [e5]; done), bdrewN (balloc hBd.out _) _⟩
    · have HS2 := Lib.hid hs2
      obtain ⟨v1, v2⟩ := addr_bd hs2
      obtain ⟨hs0, hs1, hs3, hs4, hs5, hs6⟩ := hs2
      obtain ⟨u1, u2, u3, u4⟩ := first_bd hs0 hs1 hs3 hs4
      obtain ⟨p1, p2⟩ := pages_bd c2
      obtain ⟨r1, r2⟩ := rstart_bd c2
      obtain ⟨n1, n2⟩ := slots_bd c2
      obtain ⟨z1, z2⟩ := sz_pos hs0 hs1
      have y1 : 0 ≤ x / 1024 := by omega
      have y2 : x / 1024 ≤ 18014398509481983 := by have := hxU.out; omega
      have y3 : 0 ≤ x % 1024 := by omega
      have y4 : x % 1024 < 1024 := by omega
      have HX := Lib.hid e
      clear e
      refine (implDecode _ _ _ _ _ _ _ HX.out _ HTx.out hx0 hxU.out).mono ?_; rintro e wd ⟨rfl, hwd⟩
      have hBd := Lib.hid (bstep hBx.out hwd)
      have HTd : ∀ o, Laid.Table (wd.alloc o) := fun o => HT0.out.below (balloc hBd.out o) HT0.out.lt
      have HTe : ∀ o n, Laid.Table ((wd.alloc o).drewN n) := fun o n => HT0.out.below (bdrewN (balloc hBd.out o) n) HT0.out.lt
      clear hwd
      go_wp2_with (first | (go_at_call 26; refine (Cls.largeStart _ (by first | exact HTd _ | exact HTe _)).mono ?_; rintro e w' ⟨rfl, rfl⟩) | (go_at_call 27; refine (Cls.regionStart _ _ (by first | exact HTd _ | exact HTe _)).mono ?_; rintro e w' ⟨rfl, rfl⟩) | (go_at_call 17; refine (Cls.slabPages _ _ (by first | exact HTd _ | exact HTe _)).mono ?_; rintro e w' ⟨rfl, rfl⟩) | (go_at_call 11; refine (Plc.slotAddr_yes _ _ _ _ (by first | exact HTd _ | exact HTe _) HS2.out).mono ?_; rintro e w' ⟨rfl, rfl⟩) | (go_at_call 16; refine (Cls.slabSlots _ _ (by first | exact HTd _ | exact HTe _)).mono ?_; rintro e w' ⟨rfl, rfl⟩) | (go_at_call 15; refine (Cls.slotSize _ _ (by first | exact HTd _ | exact HTe _)).mono ?_; rintro e w' ⟨rfl, rfl⟩))
      have e8 : IntKind.u64.wrap o2 = o2 := wu (by omega) (by omega)
      have e9 : addr c2 s2 j2 + o2 = x := h.symm
      have HH := Lib.hid h
      clear h
      go_quiet (first | (go_at_call 26; exact qback (Cls.largeStart _ (HTe _ _))) | (go_at_call 27; exact qback (Cls.regionStart _ _ (HTe _ _))) | (go_at_call 17; exact qback (Cls.slabPages _ _ (HTe _ _))) | (go_at_call 11; exact qback (Plc.slotAddr_yes _ _ _ _ (HTe _ _) HS2.out)) | (go_at_call 16; exact qback (Cls.slabSlots _ _ (HTe _ _))) | (go_at_call 15; exact qback (Cls.slotSize _ _ (HTe _ _))))
      go_wp2
      go_ret
      exact ⟨by first | (simp; done) | (simp [e9]; done) | (simp [e5]; done), bdrewN (balloc hBd.out _) _⟩
  · have HS := Lib.hid hs
    clear hs
    go_wp2_with fail
    refine (Plc.slotAddr_no _ _ _ _ HT1.out HS.out).mono ?_; rintro e w' ⟨rfl, rfl⟩
    go_wp2_with fail
    refine (PlcS.slotAddr_no _ _ _ _ HS.out).mono ?_; rintro e w2 ⟨rfl, hw2⟩
    have hB2 := Lib.hid (bstep hB1.out hw2)
    clear hw2
    go_wp2_with fail
    refine (DrwP.drawDecode _ _ _ hl _ (Kd.C_below HC.out hB2.out)).mono ?_
    rintro e wx ⟨x, hxu, rfl, hwx⟩
    have hBx := Lib.hid (bstep hB2.out hwx)
    have HTx := Lib.hid (HT0.out.below hBx.out HT0.out.lt)
    have hx0 : 0 ≤ x := hxu.1
    have hxU := Lib.hid hxu.2
    have hxV := hxu.2
    have hAt := at_of hx0
    clear hxu hwx
    go_wp2_with fail
    rcases hAt with ⟨e, h⟩ | ⟨e, h, h'⟩ | ⟨e, h⟩ | ⟨c2, s2, hs2, e, h, h'⟩ | ⟨c2, s2, o2, hs2, e, h0, h1, h, h'⟩ | ⟨c2, s2, j2, o2, hs2, e, h0, h1, h⟩
    · have HX := Lib.hid e
      clear e
      refine (implDecode _ _ _ _ _ _ _ HX.out _ HTx.out hx0 hxU.out).mono ?_; rintro e wd ⟨rfl, hwd⟩
      have hBd := Lib.hid (bstep hBx.out hwd)
      clear hwd
      go_wp2_with fail
      refine (ClsS.arenaPages _).mono ?_; rintro e wz ⟨rfl, hwz⟩
      have hBz := Lib.hid (bstep (balloc hBd.out _) hwz)
      clear hwz
      go_wp2
      go_ret
      exact ⟨by simp, hBz.out⟩
    · have y1 : 0 ≤ x / 1024 := by omega
      have y2 : x / 1024 ≤ 18014398509481983 := by have := hxU.out; omega
      have y3 : 0 ≤ x % 1024 := by omega
      have y4 : x % 1024 < 1024 := by omega
      have HX := Lib.hid e
      clear e
      refine (implDecode _ _ _ _ _ _ _ HX.out _ HTx.out hx0 hxU.out).mono ?_; rintro e wd ⟨rfl, hwd⟩
      have hBd := Lib.hid (bstep hBx.out hwd)
      have HTd : ∀ o, Laid.Table (wd.alloc o) := fun o => HT0.out.below (balloc hBd.out o) HT0.out.lt
      have HTe : ∀ o n, Laid.Table ((wd.alloc o).drewN n) := fun o n => HT0.out.below (bdrewN (balloc hBd.out o) n) HT0.out.lt
      clear hwd
      go_wp2_with (first | (go_at_call 26; refine (Cls.largeStart _ (by first | exact HTd _ | exact HTe _)).mono ?_; rintro e w' ⟨rfl, rfl⟩) | (go_at_call 27; refine (Cls.regionStart _ _ (by first | exact HTd _ | exact HTe _)).mono ?_; rintro e w' ⟨rfl, rfl⟩) | (go_at_call 17; refine (Cls.slabPages _ _ (by first | exact HTd _ | exact HTe _)).mono ?_; rintro e w' ⟨rfl, rfl⟩) | (go_at_call 11; refine (Plc.slotAddr_yes _ _ _ _ (by first | exact HTd _ | exact HTe _) HS2.out).mono ?_; rintro e w' ⟨rfl, rfl⟩) | (go_at_call 16; refine (Cls.slabSlots _ _ (by first | exact HTd _ | exact HTe _)).mono ?_; rintro e w' ⟨rfl, rfl⟩) | (go_at_call 15; refine (Cls.slotSize _ _ (by first | exact HTd _ | exact HTe _)).mono ?_; rintro e w' ⟨rfl, rfl⟩))
      have k2 : x / 1024 - 187 < 96 := by omega
      have e1 : IntKind.i64.wrap (187 + (x / 1024 - 187)) = x / 1024 := by rw [wi (by omega) (by omega)]; omega
      go_quiet (first | (go_at_call 26; exact qback (Cls.largeStart _ (HTe _ _))) | (go_at_call 27; exact qback (Cls.regionStart _ _ (HTe _ _))) | (go_at_call 17; exact qback (Cls.slabPages _ _ (HTe _ _))) | (go_at_call 11; exact qback (Plc.slotAddr_yes _ _ _ _ (HTe _ _) HS2.out)) | (go_at_call 16; exact qback (Cls.slabSlots _ _ (HTe _ _))) | (go_at_call 15; exact qback (Cls.slotSize _ _ (HTe _ _))))
      go_wp2
      go_ret
      exact ⟨by first | (simp; done) | (simp [e9]; done) | (simp [e5]; done), bdrewN (balloc hBd.out _) _⟩
    · have y0 : x / 1024 = 0 := by omega
      have HX := Lib.hid e
      clear e
      refine (implDecode _ _ _ _ _ _ _ HX.out _ HTx.out hx0 hxU.out).mono ?_; rintro e wd ⟨rfl, hwd⟩
      have hBd := Lib.hid (bstep hBx.out hwd)
      have HTd : ∀ o, Laid.Table (wd.alloc o) := fun o => HT0.out.below (balloc hBd.out o) HT0.out.lt
      have HTe : ∀ o n, Laid.Table ((wd.alloc o).drewN n) := fun o n => HT0.out.below (bdrewN (balloc hBd.out o) n) HT0.out.lt
      clear hwd
      go_wp2_with (first | (go_at_call 26; refine (Cls.largeStart _ (by first | exact HTd _ | exact HTe _)).mono ?_; rintro e w' ⟨rfl, rfl⟩) | (go_at_call 27; refine (Cls.regionStart _ _ (by first | exact HTd _ | exact HTe _)).mono ?_; rintro e w' ⟨rfl, rfl⟩) | (go_at_call 17; refine (Cls.slabPages _ _ (by first | exact HTd _ | exact HTe _)).mono ?_; rintro e w' ⟨rfl, rfl⟩) | (go_at_call 11; refine (Plc.slotAddr_yes _ _ _ _ (by first | exact HTd _ | exact HTe _) HS2.out).mono ?_; rintro e w' ⟨rfl, rfl⟩) | (go_at_call 16; refine (Cls.slabSlots _ _ (by first | exact HTd _ | exact HTe _)).mono ?_; rintro e w' ⟨rfl, rfl⟩) | (go_at_call 15; refine (Cls.slotSize _ _ (by first | exact HTd _ | exact HTe _)).mono ?_; rintro e w' ⟨rfl, rfl⟩))
      go_quiet (first | (go_at_call 26; exact qback (Cls.largeStart _ (HTe _ _))) | (go_at_call 27; exact qback (Cls.regionStart _ _ (HTe _ _))) | (go_at_call 17; exact qback (Cls.slabPages _ _ (HTe _ _))) | (go_at_call 11; exact qback (Plc.slotAddr_yes _ _ _ _ (HTe _ _) HS2.out)) | (go_at_call 16; exact qback (Cls.slabSlots _ _ (HTe _ _))) | (go_at_call 15; exact qback (Cls.slotSize _ _ (HTe _ _))))
      go_wp2
      go_ret
      exact ⟨by first | (simp; done) | (simp [e9]; done) | (simp [e5]; done), bdrewN (balloc hBd.out _) _⟩
    · have HS2 := Lib.hid hs2
      obtain ⟨hs0, hs1, hs3, hs4, hs5, hs6⟩ := hs2
      obtain ⟨u1, u2, u3, u4⟩ := first_bd hs0 hs1 hs3 hs4
      obtain ⟨p1, p2⟩ := pages_bd c2
      obtain ⟨r1, r2⟩ := rstart_bd c2
      obtain ⟨n1, n2⟩ := slots_bd c2
      obtain ⟨z1, z2⟩ := sz_pos hs0 hs1
      have y1 : 0 ≤ x / 1024 := by omega
      have y2 : x / 1024 ≤ 18014398509481983 := by have := hxU.out; omega
      have y3 : 0 ≤ x % 1024 := by omega
      have y4 : x % 1024 < 1024 := by omega
      have HX := Lib.hid e
      clear e
      refine (implDecode _ _ _ _ _ _ _ HX.out _ HTx.out hx0 hxU.out).mono ?_; rintro e wd ⟨rfl, hwd⟩
      have hBd := Lib.hid (bstep hBx.out hwd)
      have HTd : ∀ o, Laid.Table (wd.alloc o) := fun o => HT0.out.below (balloc hBd.out o) HT0.out.lt
      have HTe : ∀ o n, Laid.Table ((wd.alloc o).drewN n) := fun o n => HT0.out.below (bdrewN (balloc hBd.out o) n) HT0.out.lt
      clear hwd
      go_wp2_with (first | (go_at_call 26; refine (Cls.largeStart _ (by first | exact HTd _ | exact HTe _)).mono ?_; rintro e w' ⟨rfl, rfl⟩) | (go_at_call 27; refine (Cls.regionStart _ _ (by first | exact HTd _ | exact HTe _)).mono ?_; rintro e w' ⟨rfl, rfl⟩) | (go_at_call 17; refine (Cls.slabPages _ _ (by first | exact HTd _ | exact HTe _)).mono ?_; rintro e w' ⟨rfl, rfl⟩) | (go_at_call 11; refine (Plc.slotAddr_yes _ _ _ _ (by first | exact HTd _ | exact HTe _) HS2.out).mono ?_; rintro e w' ⟨rfl, rfl⟩) | (go_at_call 16; refine (Cls.slabSlots _ _ (by first | exact HTd _ | exact HTe _)).mono ?_; rintro e w' ⟨rfl, rfl⟩) | (go_at_call 15; refine (Cls.slotSize _ _ (by first | exact HTd _ | exact HTe _)).mono ?_; rintro e w' ⟨rfl, rfl⟩))
      have k0 : ¬ x / 1024 = 0 := by omega
      have k1 : (x / 1024 == 0) = false := by rw [beq_eq_false_iff_ne]; exact k0
      have e1 : IntKind.i64.wrap (s2 + 1) = s2 + 1 := wi (by omega) (by omega)
      have e2 : IntKind.i64.wrap (pages c2 + 1) = pages c2 + 1 := wi (by omega) (by omega)
      have hq : (s2 + 1) * (pages c2 + 1) = s2 * (pages c2 + 1) + (pages c2 + 1) := by rw [Int.add_mul, Int.one_mul]
      have e3 : IntKind.i64.wrap ((s2 + 1) * (pages c2 + 1)) = (s2 + 1) * (pages c2 + 1) := wi (by omega) (by omega)
      have e4 : IntKind.i64.wrap (rstart c2 + (s2 + 1) * (pages c2 + 1)) = rstart c2 + (s2 + 1) * (pages c2 + 1) := wi (by omega) (by omega)
      have e5 : rstart c2 + (s2 + 1) * (pages c2 + 1) - 1 = x / 1024 := h.symm
      have HH := Lib.hid h
      clear hq h
      go_quiet (first | (go_at_call 26; exact qback (Cls.largeStart _ (HTe _ _))) | (go_at_call 27; exact qback (Cls.regionStart _ _ (HTe _ _))) | (go_at_call 17; exact qback (Cls.slabPages _ _ (HTe _ _))) | (go_at_call 11; exact qback (Plc.slotAddr_yes _ _ _ _ (HTe _ _) HS2.out)) | (go_at_call 16; exact qback (Cls.slabSlots _ _ (HTe _ _))) | (go_at_call 15; exact qback (Cls.slotSize _ _ (HTe _ _))))
      go_wp2
      go_ret
      exact ⟨by first | (simp; done) | (simp [e9]; done) | (simp [e5]; done), bdrewN (balloc hBd.out _) _⟩
    · have HS2 := Lib.hid hs2
      obtain ⟨v1, v2⟩ := addr_bd hs2
      obtain ⟨hs0, hs1, hs3, hs4, hs5, hs6⟩ := hs2
      obtain ⟨u1, u2, u3, u4⟩ := first_bd hs0 hs1 hs3 hs4
      obtain ⟨p1, p2⟩ := pages_bd c2
      obtain ⟨r1, r2⟩ := rstart_bd c2
      obtain ⟨n1, n2⟩ := slots_bd c2
      obtain ⟨z1, z2⟩ := sz_pos hs0 hs1
      have y1 : 0 ≤ x / 1024 := by omega
      have y2 : x / 1024 ≤ 18014398509481983 := by have := hxU.out; omega
      have y3 : 0 ≤ x % 1024 := by omega
      have y4 : x % 1024 < 1024 := by omega
      have HX := Lib.hid e
      clear e
      refine (implDecode _ _ _ _ _ _ _ HX.out _ HTx.out hx0 hxU.out).mono ?_; rintro e wd ⟨rfl, hwd⟩
      have hBd := Lib.hid (bstep hBx.out hwd)
      have HTd : ∀ o, Laid.Table (wd.alloc o) := fun o => HT0.out.below (balloc hBd.out o) HT0.out.lt
      have HTe : ∀ o n, Laid.Table ((wd.alloc o).drewN n) := fun o n => HT0.out.below (bdrewN (balloc hBd.out o) n) HT0.out.lt
      clear hwd
      go_wp2_with (first | (go_at_call 26; refine (Cls.largeStart _ (by first | exact HTd _ | exact HTe _)).mono ?_; rintro e w' ⟨rfl, rfl⟩) | (go_at_call 27; refine (Cls.regionStart _ _ (by first | exact HTd _ | exact HTe _)).mono ?_; rintro e w' ⟨rfl, rfl⟩) | (go_at_call 17; refine (Cls.slabPages _ _ (by first | exact HTd _ | exact HTe _)).mono ?_; rintro e w' ⟨rfl, rfl⟩) | (go_at_call 11; refine (Plc.slotAddr_yes _ _ _ _ (by first | exact HTd _ | exact HTe _) HS2.out).mono ?_; rintro e w' ⟨rfl, rfl⟩) | (go_at_call 16; refine (Cls.slabSlots _ _ (by first | exact HTd _ | exact HTe _)).mono ?_; rintro e w' ⟨rfl, rfl⟩) | (go_at_call 15; refine (Cls.slotSize _ _ (by first | exact HTd _ | exact HTe _)).mono ?_; rintro e w' ⟨rfl, rfl⟩))
      have e1 : IntKind.i64.wrap (s2 + 1) = s2 + 1 := wi (by omega) (by omega)
      have e2 : IntKind.i64.wrap (pages c2 + 1) = pages c2 + 1 := wi (by omega) (by omega)
      have hq : (s2 + 1) * (pages c2 + 1) = s2 * (pages c2 + 1) + (pages c2 + 1) := by rw [Int.add_mul, Int.one_mul]
      have e3 : IntKind.i64.wrap ((s2 + 1) * (pages c2 + 1)) = (s2 + 1) * (pages c2 + 1) := wi (by omega) (by omega)
      have e4 : IntKind.i64.wrap (rstart c2 + (s2 + 1) * (pages c2 + 1)) = rstart c2 + (s2 + 1) * (pages c2 + 1) := wi (by omega) (by omega)
      have e5 : IntKind.i64.wrap (rstart c2 + (s2 + 1) * (pages c2 + 1) - 1) = rstart c2 + (s2 + 1) * (pages c2 + 1) - 1 := wi (by omega) (by omega)
      have f0 := Int.mul_nonneg n1 (show 0 ≤ sz c2 by omega)
      have f1 := slots_fit c2
      have e6 : IntKind.i64.wrap (slots c2 * sz c2) = slots c2 * sz c2 := wi (by omega) (by omega)
      have e7 : IntKind.i64.wrap (slots c2 * sz c2 + o2) = slots c2 * sz c2 + o2 := wi (by omega) (by omega)
      have e8 : IntKind.u64.wrap (slots c2 * sz c2 + o2) = slots c2 * sz c2 + o2 := wu (by omega) (by omega)
      have e9 : addr c2 s2 0 + (slots c2 * sz c2 + o2) = x := h.symm
      clear hq f0 f1
      have HH := Lib.hid h
      clear h
      go_quiet (first | (go_at_call 26; exact qback (Cls.largeStart _ (HTe _ _))) | (go_at_call 27; exact qback (Cls.regionStart _ _ (HTe _ _))) | (go_at_call 17; exact qback (Cls.slabPages _ _ (HTe _ _))) | (go_at_call 11; exact qback (Plc.slotAddr_yes _ _ _ _ (HTe _ _) HS2.out)) | (go_at_call 16; exact qback (Cls.slabSlots _ _ (HTe _ _))) | (go_at_call 15; exact qback (Cls.slotSize _ _ (HTe _ _))))
      go_wp2
      go_ret
      exact ⟨by first | (simp; done) | (simp [e9]; done) | (simp [e5]; done), bdrewN (balloc hBd.out _) _⟩
    · have HS2 := Lib.hid hs2
      obtain ⟨v1, v2⟩ := addr_bd hs2
      obtain ⟨hs0, hs1, hs3, hs4, hs5, hs6⟩ := hs2
      obtain ⟨u1, u2, u3, u4⟩ := first_bd hs0 hs1 hs3 hs4
      obtain ⟨p1, p2⟩ := pages_bd c2
      obtain ⟨r1, r2⟩ := rstart_bd c2
      obtain ⟨n1, n2⟩ := slots_bd c2
      obtain ⟨z1, z2⟩ := sz_pos hs0 hs1
      have y1 : 0 ≤ x / 1024 := by omega
      have y2 : x / 1024 ≤ 18014398509481983 := by have := hxU.out; omega
      have y3 : 0 ≤ x % 1024 := by omega
      have y4 : x % 1024 < 1024 := by omega
      have HX := Lib.hid e
      clear e
      refine (implDecode _ _ _ _ _ _ _ HX.out _ HTx.out hx0 hxU.out).mono ?_; rintro e wd ⟨rfl, hwd⟩
      have hBd := Lib.hid (bstep hBx.out hwd)
      have HTd : ∀ o, Laid.Table (wd.alloc o) := fun o => HT0.out.below (balloc hBd.out o) HT0.out.lt
      have HTe : ∀ o n, Laid.Table ((wd.alloc o).drewN n) := fun o n => HT0.out.below (bdrewN (balloc hBd.out o) n) HT0.out.lt
      clear hwd
      go_wp2_with (first | (go_at_call 26; refine (Cls.largeStart _ (by first | exact HTd _ | exact HTe _)).mono ?_; rintro e w' ⟨rfl, rfl⟩) | (go_at_call 27; refine (Cls.regionStart _ _ (by first | exact HTd _ | exact HTe _)).mono ?_; rintro e w' ⟨rfl, rfl⟩) | (go_at_call 17; refine (Cls.slabPages _ _ (by first | exact HTd _ | exact HTe _)).mono ?_; rintro e w' ⟨rfl, rfl⟩) | (go_at_call 11; refine (Plc.slotAddr_yes _ _ _ _ (by first | exact HTd _ | exact HTe _) HS2.out).mono ?_; rintro e w' ⟨rfl, rfl⟩) | (go_at_call 16; refine (Cls.slabSlots _ _ (by first | exact HTd _ | exact HTe _)).mono ?_; rintro e w' ⟨rfl, rfl⟩) | (go_at_call 15; refine (Cls.slotSize _ _ (by first | exact HTd _ | exact HTe _)).mono ?_; rintro e w' ⟨rfl, rfl⟩))
      have e8 : IntKind.u64.wrap o2 = o2 := wu (by omega) (by omega)
      have e9 : addr c2 s2 j2 + o2 = x := h.symm
      have HH := Lib.hid h
      clear h
      go_quiet (first | (go_at_call 26; exact qback (Cls.largeStart _ (HTe _ _))) | (go_at_call 27; exact qback (Cls.regionStart _ _ (HTe _ _))) | (go_at_call 17; exact qback (Cls.slabPages _ _ (HTe _ _))) | (go_at_call 11; exact qback (Plc.slotAddr_yes _ _ _ _ (HTe _ _) HS2.out)) | (go_at_call 16; exact qback (Cls.slabSlots _ _ (HTe _ _))) | (go_at_call 15; exact qback (Cls.slotSize _ _ (HTe _ _))))
      go_wp2
      go_ret
      exact ⟨by first | (simp; done) | (simp [e9]; done) | (simp [e5]; done), bdrewN (balloc hBd.out _) _⟩
end Go.Proofs.YtklobepkihdbkaaDoor.PlaLaw
