/- The reader of drawn bytes: what a call of next leaves. Bytes, at most 2^20 of them. -/
import Derived.Test.YtklobepkihdbkaaPFnSpacex1
import Derived.Test.YtklobepkihdbkaaEv
import Derived.WalkKit
import Derived.WalkLawsBesides
import Derived.WalkSpells
import Derived.Lib.Hide
import Derived.Test.YtklobepkihdbkaaMrk
namespace Go.Proofs.Ytklobepkihdbkaa.RdS
open Go.RowKit Go.Proofs.Ytklobepkihdbkaa.PFnSpace Go.Proofs.YtklobepkihdbkaaW.PrintWords Go.Proofs.YtklobepkihdbkaaW.PrintLast
set_option linter.unusedVariables false
set_option linter.unusedSimpArgs false
def Bytes (l : List Int) : Prop := ∀ x ∈ l, 0 ≤ x ∧ x ≤ 255
def IsRd (w0 w : World) (g : Nat) (s : List Int) : Prop := ∃ i, (0 ≤ i ∧ i ≤ (s.length : Int)) ∧ IsS80 w0 w g s i
theorem IsRd.below {w0 W W1 : World} {g : Nat} {s : List Int} (h : IsRd w0 W g s) (hw : Below W.heap.size W W1) : IsRd w0 W1 g s := by
  obtain ⟨i, hi, h⟩ := h
  exact ⟨i, hi, h.below hw⟩
theorem IsRd.grown {w0 W W1 : World} {g : Nat} {s : List Int} (h : IsRd w0 W g s) {row : Option Nat} (hw : W.grownBy W1 row) (hne : some g ≠ row) : IsRd w0 W1 g s := by
  obtain ⟨i, hi, h⟩ := h
  exact ⟨i, hi, h.grown hw hne⟩
theorem IsRd.ge {w0 W : World} {g : Nat} {s : List Int} (h : IsRd w0 W g s) : w0.heap.size ≤ g := by
  obtain ⟨i, hi, h⟩ := h
  exact h.ge
theorem IsRd.lt {w0 W : World} {g : Nat} {s : List Int} (h : IsRd w0 W g s) : g < W.heap.size := by
  obtain ⟨i, hi, A, c, h, _⟩ := h
  exact blk_lt h
theorem IsRd.drew {w0 W : World} {g : Nat} {s : List Int} (h : IsRd w0 W g s) : IsRd w0 W.drew g s := h
theorem IsRd.drewN {w0 W : World} {g : Nat} {s : List Int} (h : IsRd w0 W g s) (n : Nat) : IsRd w0 (W.drewN n) g s := h
def nx (s : List Int) (i : Int) : Int := if i < (s.length : Int) then rd s i else 0
def adv (s : List Int) (i : Int) : Int := if i < (s.length : Int) then i + 1 else i
theorem nx_range {s : List Int} (hs : Bytes s) {i : Int} (h0 : 0 ≤ i) : 0 ≤ nx s i ∧ nx s i ≤ 255 := by
  unfold nx
  by_cases hi : i < (s.length : Int)
  · rw [if_pos hi]
    exact hs (rd s i) (by
      unfold rd
      rw [List.getD_eq_getElem?_getD, List.getElem?_eq_getElem (by omega)]
      exact List.getElem_mem _)
  · rw [if_neg hi]
    omega
theorem adv_range {s : List Int} {i : Int} (h : 0 ≤ i ∧ i ≤ (s.length : Int)) : 0 ≤ adv s i ∧ adv s i ≤ (s.length : Int) := by
  unfold adv
  split <;> omega
theorem next_f {s : List Int} (hs : Bytes s) (hl : s.length ≤ 1048576) {i : Int} (h0 : 0 ≤ i) : spec_l1Reader_next.f s i = some (nx s i, adv s i) := by
  have hr := nx_range hs h0
  unfold spec_l1Reader_next.f
  unfold nx at hr ⊢
  unfold adv
  by_cases hi : i < (s.length : Int)
  · rw [if_pos hi] at hr
    have e1 : wrap64 (rd s i) = rd s i := by unfold wrap64; omega
    have e2 : wrap64 (i + 1) = i + 1 := by unfold wrap64; omega
    rw [if_neg (by omega), if_pos h0, if_pos hi, if_pos hi, if_pos hi, e1, e2]
  · rw [if_pos (by omega), if_neg hi, if_neg hi]
theorem next_at {w0 w : World} {g : Nat} {s : List Int} {i r : Int} (hs : Bytes s) (hl : s.length ≤ 1048576) (h0 : 0 ≤ i) (hr : nx s i = r) (hI : IsS80 w0 w g s i) (hB : Below w0.heap.size w0 w) :
    Calls Try.prog 40 #[.pointer (some ⟨g, 0, none⟩)] w fun e w' => e = .returned (.int .i64 r) ∧ IsS80 w0 w' g s (adv s i) ∧ Below w0.heap.size w0 w' ∧ KeepBut w w' g none := by
  subst hr
  exact spec_l1Reader_next.calls g s i _ _ w0 w hI hB (next_f hs hl h0)
theorem next_any {w0 w : World} {g : Nat} {s : List Int} (hs : Bytes s) (hl : s.length ≤ 1048576) (hI : IsRd w0 w g s) (hB : Below w0.heap.size w0 w) :
    Calls Try.prog 40 #[.pointer (some ⟨g, 0, none⟩)] w fun e w' => ∃ r : Int, e = .returned (.int .i64 r) ∧ (0 ≤ r ∧ r ≤ 255) ∧ IsRd w0 w' g s ∧ Below w0.heap.size w0 w' ∧ KeepBut w w' g none := by
  obtain ⟨i, hi, hI⟩ := hI
  exact (next_at hs hl hi.1 rfl hI hB).mono fun e w' ⟨he, h2, h3, h4⟩ => ⟨_, he, nx_range hs hi.1, ⟨_, adv_range hi, h2⟩, h3, h4⟩
/-- What bytes comes to: so many bytes, the reader somewhere behind. -/
theorem bytes_l0 {s : List Int} (hs : Bytes s) (hl : s.length ≤ 1048576) (n : Int) (hn : n ≤ 1048576) : ∀ (d : Nat) (out : List Int) (j i : Int), 0 ≤ j → (d : Int) = n - j → out.length ≤ 1048576 + 1048576 → out.length + d ≤ 2097152 → 0 ≤ i → i ≤ s.length → ∃ r, (0 ≤ r.2 ∧ r.2 ≤ (s.length : Int)) ∧ spec_l1Reader_bytes.l0 (d + 1) n out j s i = some r
  | 0, out, j, i, h0, hd, ho, hod, hi0, hi1 => ⟨(out, i), ⟨hi0, hi1⟩, by rw [spec_l1Reader_bytes.l0, if_neg (by omega)]⟩
  | d + 1, out, j, i, h0, hd, ho, hod, hi0, hi1 => by
    have ha := adv_range ⟨hi0, hi1⟩
    obtain ⟨r, hr, h⟩ := bytes_l0 hs hl n hn d (out ++ [(nx s i) % 256]) (j + 1) (adv s i) (by omega) (by omega) (by simp; omega) (by simp; omega) ha.1 ha.2
    refine ⟨r, hr, ?_⟩
    rw [spec_l1Reader_bytes.l0, if_pos (by omega), next_f hs hl hi0, Option.bind_some, if_pos (by omega), Ev.w64 (by omega) (by omega)]
    exact h
theorem bytes_f {s : List Int} (hs : Bytes s) (hl : s.length ≤ 1048576) (n : Int) (hn : n ≤ 1048576) {i : Int} (hi0 : 0 ≤ i) (hi1 : i ≤ s.length) : ∃ K r, (0 ≤ r.2 ∧ r.2 ≤ (s.length : Int)) ∧ spec_l1Reader_bytes.f K s i n = some r := by
  by_cases h : 0 ≤ n
  · obtain ⟨m, rfl⟩ := Int.eq_ofNat_of_zero_le h
    obtain ⟨r, hr, e⟩ := bytes_l0 hs hl m hn m [] 0 i (by omega) (by omega) (by simp) (by simp; omega) hi0 hi1
    exact ⟨m + 1, r, hr, e⟩
  · exact ⟨1, ([], i), ⟨hi0, hi1⟩, by rw [spec_l1Reader_bytes.f, spec_l1Reader_bytes.l0, if_neg (by omega)]⟩
theorem bytes_any {w0 w : World} {g : Nat} {s : List Int} (hs : Bytes s) (hl : s.length ≤ 1048576) (n : Int) (hn : n ≤ 1048576) (hI : IsRd w0 w g s) (hB : Below w0.heap.size w0 w) :
    Calls Try.prog 41 #[.pointer (some ⟨g, 0, none⟩), .int .i64 n] w fun e w' => ∃ v xs, e = .returned v ∧ (Kd.int .u8).R 5 w' w.heap.size (fun _ => True) v xs ∧ IsRd w0 w' g s ∧ Below w0.heap.size w0 w' ∧ KeepBut w w' g none := by
  obtain ⟨i, hi, hI⟩ := hI
  obtain ⟨K, r, hr, hf⟩ := bytes_f hs hl n hn hi.1 hi.2
  exact (spec_l1Reader_bytes.calls K g s i n r.1 r.2 w0 w hI hB hf).mono fun e w' ⟨v, he, h1, h2, h3, h4⟩ => ⟨v, r.1, he, h1, ⟨_, hr, h2⟩, h3, h4⟩
end Go.Proofs.Ytklobepkihdbkaa.RdS
/- Drawn operations over a space: what the draw leaves. -/
namespace Go.Proofs.Ytklobepkihdbkaa.Dsp
open Go.RowKit Go.Proofs.YtklobepkihdbkaaW.PrintWords Go.Proofs.YtklobepkihdbkaaW.PrintLast Go.Proofs.YtklobepkihdbkaaW.PrintMore Go.Proofs.Ytklobepkihdbkaa.PFnExactRunSpace RdS RsP Mem SpI
set_option linter.unusedVariables false
set_option linter.unusedSimpArgs false
theorem infoO : (Try.prog.info? 52).map (fun i => (i.zero, i.size, i.bytes)) = some (some (.agg #[.int .i64 0, .int .i64 0, .int .i64 0, .int .u64 0, .int .i64 0, .slice none 0 0]), 6, 64) := by kernel_rfl
/-- Between two operations: those that were drawn, the reader. -/
structure DsI (w : World) (g : Nat) (s : List Int) (vo : Value) (xs : List So) (W : World) : Prop where
  o : Kd.S k52 52 W w.heap.size (fun k => k ≠ g) vo xs
  rd : IsRd w W g s
  b : Below w.heap.size w W
  f : ∀ x ∈ xs, 0 ≤ x.f3 ∧ x.f3 ≤ 18446744073709551615
/-- Inside an operation: its box. -/
structure DsO (w : World) (g bb : Nat) (s : List Int) (vo : Value) (xs : List So) (p : So) (vd : Value) (W : World) : Prop where
  o : Kd.S k52 52 W w.heap.size (fun k => (k ≠ g ∧ k ≠ bb) ∧ some k ≠ vd.ownBlock) vo xs
  d : (Kd.int .u8).R 5 W w.heap.size (fun k => k ≠ g ∧ k ≠ bb) vd p.f5
  box : W.heap[bb]? = some (.cells #[.int .i64 p.f0, .int .i64 p.f1, .int .i64 p.f2, .int .u64 p.f3, .int .i64 p.f4, vd] 52 (0, 0))
  rd : IsRd w W g s
  b : Below w.heap.size w W
  f : ∀ x ∈ xs, 0 ≤ x.f3 ∧ x.f3 ≤ 18446744073709551615
  fp : 0 ≤ p.f3 ∧ p.f3 ≤ 18446744073709551615
  ne : bb ≠ g
  hb : w.heap.size ≤ bb
theorem gset (w : World) (p : Addr) (u : Value) : w.grownBy (w.setCell p u) (some p.block) := ⟨rfl, rfl, rfl, by simp [World.setCell], fun i hi hne => Below.heap_setCell w p u i (fun e => hne (by rw [e]))⟩
section
variable {w W W1 : World} {g bb : Nat} {s : List Int} {vo vd v1 : Value} {xs : List So} {p p' : So}
theorem DsI.keep (h : DsI w g s vo xs W) (hk : KeepBut W W1 g none) (hI : IsRd w W1 g s) (hB : Below w.heap.size w W1) : DsI w g s vo xs W1 := ⟨Kd.S_keep h.o hk (fun k hk => hk), hI, hB, h.f⟩
theorem DsI.alloc (h : DsI w g s vo xs W) (o : Obj) : DsI w g s vo xs (W.alloc o) := ⟨Kd.S_alloc h.o o, h.rd.below (below_alloc (Below.refl _ _) o), below_alloc h.b o, h.f⟩
theorem DsI.drew (h : DsI w g s vo xs W) : DsI w g s vo xs W.drew := ⟨Kd.S_drew h.o, h.rd.drew, below_drew h.b, h.f⟩
theorem DsI.box (h : DsI w g s vo xs W) (k0 k1 k2 : Int) : DsO w g W.heap.size s vo xs ⟨k0, k1, k2, 0, 0, []⟩ (.slice none 0 0) (W.alloc (.cells #[.int .i64 k0, .int .i64 k1, .int .i64 k2, .int .u64 0, .int .i64 0, .slice none 0 0] 52)) :=
  ⟨Kd.S_alloc (Kd.S_mono (Kd.S_bound h.o) (fun k hk => ⟨⟨hk.1, by have := hk.2.2.1; omega⟩, by simp [Value.ownBlock]⟩)) _, Kd.R_nil _ _ _ _ _, alloc_new _ _, h.rd.below (below_alloc (Below.refl _ _) _), below_alloc h.b _, h.f, ⟨by simp, by simp⟩, by have := h.rd.lt; omega, h.b.size⟩
theorem DsO.keep (h : DsO w g bb s vo xs p vd W) (hk : KeepBut W W1 g none) (hI : IsRd w W1 g s) (hB : Below w.heap.size w W1) : DsO w g bb s vo xs p vd W1 :=
  ⟨Kd.S_keep h.o hk (fun k hk => hk.1.1), Kd.R_keep h.d hk (fun k hk => hk.1), (hk.2 _ (lt_of h.box) h.ne (by simp)).trans h.box, hI, hB, h.f, h.fp, h.ne, h.hb⟩
theorem DsO.drew (h : DsO w g bb s vo xs p vd W) : DsO w g bb s vo xs p vd W.drew := ⟨Kd.S_drew h.o, Kd.R_drew h.d, h.box, h.rd.drew, below_drew h.b, h.f, h.fp, h.ne, h.hb⟩
/-- A field of one cell is stored: the box's cells are p's then. -/
theorem DsO.set (h : DsO w g bb s vo xs p vd W) (i : Nat) (u : Value) (h5 : p'.f5 = p.f5) (h3 : 0 ≤ p'.f3 ∧ p'.f3 ≤ 18446744073709551615)
    (e : #[Value.int .i64 p.f0, .int .i64 p.f1, .int .i64 p.f2, .int .u64 p.f3, .int .i64 p.f4, vd].setIfInBounds i u = #[.int .i64 p'.f0, .int .i64 p'.f1, .int .i64 p'.f2, .int .u64 p'.f3, .int .i64 p'.f4, vd]) : DsO w g bb s vo xs p' vd (W.setCell ⟨bb, i, none⟩ u) :=
  ⟨Kd.S_far h.o (p := ⟨bb, i, none⟩) (fun k hk => hk.1.2) u, by rw [h5]; exact Kd.R_far h.d (p := ⟨bb, i, none⟩) (fun k hk => hk.2) u, by rw [bset h.box i u, e], h.rd.grown (gset W ⟨bb, i, none⟩ u) (fun e => h.ne (by injection e with e; exact e.symm)), below_set h.b h.hb, h.f, h3, h.ne, h.hb⟩
theorem DsO.alloc (h : DsO w g bb s vo xs p vd W) (o : Obj) : DsO w g bb s vo xs p vd (W.alloc o) := ⟨Kd.S_alloc h.o o, Kd.R_alloc h.d o, alloc_old h.box o, h.rd.below (below_alloc (Below.refl _ _) o), below_alloc h.b o, h.f, h.fp, h.ne, h.hb⟩
theorem DsO.set3 {k0 a3 : Int} (h : DsO w g bb s vo xs ⟨k0, 0, 0, 0, 0, []⟩ vd W) (h3 : 0 ≤ a3 ∧ a3 ≤ 18446744073709551615) : DsO w g bb s vo xs ⟨k0, 0, 0, a3, 0, []⟩ vd (W.setCell ⟨bb, 3, none⟩ (.int .u64 a3)) :=
  h.set (p' := ⟨k0, 0, 0, a3, 0, []⟩) 3 _ rfl h3 rfl
/-- The whole operation is stored. -/
theorem DsO.set6 (h : DsO w g bb s vo xs ⟨0, 0, 0, 0, 0, []⟩ (.slice none 0 0) W) (k0 k1 k2 : Int) : DsO w g bb s vo xs ⟨k0, k1, k2, 0, 0, []⟩ (.slice none 0 0)
    ((((((W.setCell ⟨bb, 0, none⟩ (.int .i64 k0)).setCell ⟨bb, 1, none⟩ (.int .i64 k1)).setCell ⟨bb, 2, none⟩ (.int .i64 k2)).setCell ⟨bb, 3, none⟩ (.int .u64 0)).setCell ⟨bb, 4, none⟩ (.int .i64 0)).setCell ⟨bb, 5, none⟩ (.slice none 0 0)) :=
  (((((h.set (p' := ⟨k0, 0, 0, 0, 0, []⟩) 0 (.int .i64 k0) rfl ⟨by simp, by simp⟩ rfl).set (p' := ⟨k0, k1, 0, 0, 0, []⟩) 1 (.int .i64 k1) rfl ⟨by simp, by simp⟩ rfl).set (p' := ⟨k0, k1, k2, 0, 0, []⟩) 2 (.int .i64 k2) rfl ⟨by simp, by simp⟩ rfl).set (p' := ⟨k0, k1, k2, 0, 0, []⟩) 3 (.int .u64 0) rfl ⟨by simp, by simp⟩ rfl).set (p' := ⟨k0, k1, k2, 0, 0, []⟩) 4 (.int .i64 0) rfl ⟨by simp, by simp⟩ rfl).set (p' := ⟨k0, k1, k2, 0, 0, []⟩) 5 (.slice none 0 0) rfl ⟨by simp, by simp⟩ rfl
/-- The box's cells. -/
theorem DsO.cells (h : DsO w g bb s vo xs p vd W) : (W.cell? ⟨bb, 0, none⟩ = some (.int .i64 p.f0) ∧ W.cell? ⟨bb, 1, none⟩ = some (.int .i64 p.f1) ∧ W.cell? ⟨bb, 2, none⟩ = some (.int .i64 p.f2) ∧ W.cell? ⟨bb, 3, none⟩ = some (.int .u64 p.f3) ∧ W.cell? ⟨bb, 4, none⟩ = some (.int .i64 p.f4) ∧ W.cell? ⟨bb, 5, none⟩ = some vd) ∧ ∀ i, W.frozen? ⟨bb, i, none⟩ = false :=
  ⟨⟨bcell h.box 0, bcell h.box 1, bcell h.box 2, bcell h.box 3, bcell h.box 4, bcell h.box 5⟩, bfroz h.box⟩
/-- The data, drawn and stored. -/
theorem DsO.data {ds : List Int} (h : DsO w g bb s vo xs p (.slice none 0 0) W) (hk : KeepBut W W1 g none) (hR : (Kd.int .u8).R 5 W1 W.heap.size (fun _ => True) v1 ds) (hI : IsRd w W1 g s) (hB : Below w.heap.size w W1) : DsO w g bb s vo xs ⟨p.f0, p.f1, p.f2, p.f3, p.f4, ds⟩ v1 (W1.setCell ⟨bb, 5, none⟩ v1) := by
  have h1 := h.keep hk hI hB
  have hbz := lt_of h.box
  have hge : ∀ k, v1.ownBlock = some k → W.heap.size ≤ k := fun k hk => ((Kd.R_bound hR).1 k hk).2.1
  refine ⟨?_, ?_, ?_, h1.rd.grown (gset W1 ⟨bb, 5, none⟩ v1) (fun e => h.ne (by injection e with e; exact e.symm)), below_set hB h.hb, h.f, h.fp, h.ne, h.hb⟩
  · refine Kd.S_far (p := ⟨bb, 5, none⟩) ?_ (fun k hk => hk.1.2) v1
    exact Kd.S_mono (Kd.S_keep (Kd.S_bound h.o) hk (fun k hk => hk.1.1.1)) (fun k hk => ⟨hk.1.1, fun e => by have := hge k e.symm; have := hk.2.2.1; omega⟩)
  · refine Kd.R_far (p := ⟨bb, 5, none⟩) ?_ (fun k hk => hk.2) v1
    have hg := h.rd.lt
    exact Kd.R_mono (Kd.R_lower (Kd.R_bound hR) (h.b.size)) (fun k hk => ⟨by have := hk.2.1; omega, by have := hk.2.1; omega⟩)
  · exact bset h1.box 5 v1
/-- The operation, appended. -/
theorem DsO.app (h : DsO w g bb s vo xs p vd W) (hS : Kd.S k52 52 W1 w.heap.size (fun k => k ≠ g) v1 (xs ++ [p])) (hB : Below w.heap.size w W1) (hg : W.grownBy W1 vo.ownBlock) : DsI w g s v1 (xs ++ [p]) W1 :=
  ⟨hS, h.rd.grown hg (fun e => ((Kd.S_R h.o).1 g e.symm).1.1 rfl), hB, fun x hx => by
    rcases List.mem_append.1 hx with hx | hx
    · exact h.f x hx
    · rw [List.mem_singleton.1 hx]; exact h.fp⟩
theorem DsO.okp (h : DsO w g bb s vo xs p vd W) : (∀ k, (some k = vd.ownBlock ∧ k ≠ g ∧ k ≠ bb) → k ≠ g ∧ some k ≠ vo.ownBlock) ∧
    k52.M W w.heap.size (fun k => some k = vd.ownBlock ∧ k ≠ g ∧ k ≠ bb) p [.int .i64 p.f0, .int .i64 p.f1, .int .i64 p.f2, .int .u64 p.f3, .int .i64 p.f4, vd] ∧
    Kd.S k52 52 W w.heap.size (fun k => k ≠ g ∧ ¬ (some k = vd.ownBlock ∧ k ≠ g ∧ k ≠ bb)) vo xs ∧ ∀ k, W.heap.size ≤ k → k ≠ g :=
  ⟨fun k hk => ⟨hk.2.1, fun e => ((Kd.S_R h.o).1 k e.symm).2 hk.1⟩, k52_mkM _ _ _ p (Kd.R_tight2 rfl h.d), Kd.S_mono h.o (fun k hk => ⟨hk.1.1, fun e => hk.2 e.1⟩), fun k hk => by have := h.rd.lt; omega⟩
theorem DsI.app {p : So} (h : DsI w g s vo xs W) (hf : 0 ≤ p.f3 ∧ p.f3 ≤ 18446744073709551615) (hS : Kd.S k52 52 W1 w.heap.size (fun k => k ≠ g) v1 (xs ++ [p])) (hB : Below w.heap.size w W1) (hg : W.grownBy W1 vo.ownBlock) : DsI w g s v1 (xs ++ [p]) W1 :=
  ⟨hS, h.rd.grown hg (fun e => (Kd.S_R h.o).1 g e.symm rfl), hB, fun x hx => by
    rcases List.mem_append.1 hx with hx | hx
    · exact h.f x hx
    · rw [List.mem_singleton.1 hx]; exact hf⟩
theorem lit_M (W : World) (base : Nat) (ok : Nat → Prop) : k52.M W base ok (⟨4, 0, 0, 0, 0, []⟩ : So) [.int .i64 4, .int .i64 0, .int .i64 0, .int .u64 0, .int .i64 0, .slice none 0 0] := k52_mkM _ _ _ (⟨4, 0, 0, 0, 0, []⟩ : So) (Kd.R_nil _ _ _ _ _)
end
def vlen : Value → Nat
  | .slice _ n _ => n
  | _ => 0
abbrev kinds : Array Value := #[Value.int .i64 0, .int .i64 0, .int .i64 1, .int .i64 2, .int .i64 3, .int .i64 4, .int .i64 4, .int .i64 5, .int .i64 5, .int .i64 5]
theorem kinds_at (q : Nat) (hq : q < 10) : ∃ kd : Int, kinds[q]? = some (.int .i64 kd) := by
  match q, hq with
  | 0, _ => exact ⟨_, rfl⟩
  | 1, _ => exact ⟨_, rfl⟩
  | 2, _ => exact ⟨_, rfl⟩
  | 3, _ => exact ⟨_, rfl⟩
  | 4, _ => exact ⟨_, rfl⟩
  | 5, _ => exact ⟨_, rfl⟩
  | 6, _ => exact ⟨_, rfl⟩
  | 7, _ => exact ⟨_, rfl⟩
  | 8, _ => exact ⟨_, rfl⟩
  | 9, _ => exact ⟨_, rfl⟩
/-- What the draw answers. -/
def Drew (w : World) (e : Ending) (w' : World) : Prop := ∃ (pages budget : Int) (ops : List So) (v : Value), e = .returned (.tuple #[.int .i64 pages, .int .i64 budget, v]) ∧ (0 ≤ pages ∧ pages ≤ 5000) ∧ (-1 ≤ budget ∧ budget ≤ 10) ∧ ops.length ≤ 401 ∧
  Kd.S k52 52 w' w.heap.size (fun _ => True) v ops ∧ (∀ x ∈ ops, 0 ≤ x.f3 ∧ x.f3 ≤ 18446744073709551615) ∧ Below w.heap.size w w'
set_option maxRecDepth 100000 in
set_option maxHeartbeats 8000000 in
theorem draw_is {A : Option Addr} {c : Nat} {s : List Int} (w : World) (hC : Kd.C (Kd.int .u8) w A s.length s) (hc : s.length ≤ c) (hs : Bytes s) (hl : s.length ≤ 1048576) :
    Calls Try.prog 22 #[.slice A s.length c] w (Drew w) := by
  have hI0 : IsRd w (w.alloc (.cells #[.slice A s.length c, .int .i64 0] 80)) w.heap.size s := ⟨0, ⟨by omega, by omega⟩, PFnSpace.IsS80.new w w A c s 0 (Below.refl _ _) hC⟩
  have HI := Lib.hid hI0
  have HB : Hid (Below w.heap.size w (w.alloc (.cells #[.slice A s.length c, .int .i64 0] 80))) := Lib.hid (below_alloc (Below.refl _ _) _)
  have HS := Lib.hid hs
  clear hI0 hC hs
  go_enter Try.func22, Try.ntmps22
  go_upto_region 3 with (go_at_call 40; refine (next_any HS.out hl HI.out HB.out).mono ?_; rintro e w1 ⟨k, rfl, hk, hI, hB, hk'⟩; clear HI HB; have HI := Lib.hid hI; have HB := Lib.hid hB; clear hI hB hk')
  go_upto_region 5 with (go_at_call 40; refine (next_any HS.out hl HI.out HB.out).mono ?_; rintro e w1 ⟨r, rfl, hr, hI, hB, hk'⟩; clear HI HB; have HI := Lib.hid hI; have HB := Lib.hid hB; clear hI hB hk')
  go_upto_if 26 with fail
  go_cut [7] (fun s7 wx => (∃ a : Int, s7 = .int .i64 a ∧ 0 ≤ a ∧ a ≤ 5000) ∧ Hid (IsRd w wx w.heap.size s) ∧ Hid (Below w.heap.size w wx))
  case first =>
    by_cases h1 : 250 ≤ k
    · go_wp2_with fail
      go_meet
      exact ⟨⟨_, rfl, by omega, by omega⟩, HI, HB⟩
    · go_wp2_with fail
      go_meet
      exact ⟨⟨_, rfl, by omega, by omega⟩, HI, HB⟩
  case rest =>
    clear HI HB
    obtain ⟨⟨pages, rfl, hp0, hp1⟩, HI, HB⟩ := hcut
    go_upto_if 31 with fail
    go_cut [8] (fun s8 wx => (∃ a : Int, s8 = .int .i64 a ∧ -1 ≤ a ∧ a ≤ 10) ∧ Hid (IsRd w wx w.heap.size s) ∧ Hid (Below w.heap.size w wx))
    case first =>
      by_cases h1 : k = 249
      · have h2 : (k == 249) = true := by simpa using h1
        clear h1
        go_wp2_with fail
        go_meet
        exact ⟨⟨_, rfl, by omega, by omega⟩, HI, HB⟩
      · have h2 : (k == 249) = false := by simpa using h1
        go_wp2_with fail
        go_meet
        exact ⟨⟨_, rfl, by omega, by omega⟩, HI, HB⟩
    case rest =>
      clear HI HB
      obtain ⟨⟨budget, rfl, hb0, hb1⟩, HI, HB⟩ := hcut
      go_upto_region 11 with (go_at_call 40; refine (next_any HS.out hl HI.out HB.out).mono ?_; rintro e w1 ⟨n0, rfl, hn, hI, hB, hk'⟩; clear HI HB; have HI := Lib.hid hI; have HB := Lib.hid hB; clear hI hB hk')
      obtain ⟨n, hn2⟩ : ∃ n : Nat, (n : Int) = n0 % 40 := ⟨(n0 % 40).toNat, by omega⟩
      rw [← hn2]
      have hn3 : n ≤ 40 := by omega
      have HD0 : Hid (DsI w w.heap.size s (.slice none 0 0) [] w1) := Lib.hid ⟨Kd.S_nil _ _ _ _ _, HI.out, HB.out, fun x hx => by cases hx⟩
      obtain ⟨g, hg⟩ : ∃ g, w.heap.size = g := ⟨_, rfl⟩
      rw [hg] at HD0 ⊢
      have HG := Lib.hid hg
      clear HI HB hn hn2 hg
      go_upto_region 12 with fail
      go_loopw [9, 11] (fun vo i W => ∃ j : Nat, i = .int .i64 j ∧ j ≤ n ∧ ∃ xs : List So, xs.length = j ∧ Hid (DsI w g s vo xs W)) (fun _ i _ => n - (intOf i).toNat)
      case atStart => exact ⟨0, rfl, Nat.zero_le _, [], rfl, HD0⟩
      case round =>
        clear HD0
        obtain ⟨j, rfl, hj, xs, hxs, HD⟩ := hrel
        obtain ⟨Ao, co, hvo⟩ := Kd.S_slice HD.out.o
        rw [hxs] at hvo
        subst hvo
        by_cases hlt : j < n
        · go_upto_region 15 with (go_at_call 40; refine (next_any HS.out hl HD.out.rd HD.out.b).mono ?_; rintro e w2 ⟨cc, rfl, hcc, hI, hB, hk'⟩; have HD2 := Lib.hid (HD.out.keep hk' hI hB); clear hI hB hk')
          go_cut [13] (fun s13 wx => ∃ (bb : Nat) (k0 k1 k2 : Int), s13 = .pointer (some ⟨bb, 0, none⟩) ∧ Hid (DsO w g bb s (.slice Ao j co) xs ⟨k0, k1, k2, 0, 0, []⟩ (.slice none 0 0) wx))
          case first =>
            obtain ⟨q, hq⟩ : ∃ q : Nat, cc % 10 = (q : Int) := ⟨(cc % 10).toNat, by omega⟩
            have hq10 : q < 10 := by omega
            obtain ⟨kd, hkd⟩ := kinds_at q hq10
            have hli : ∀ h : q < ([Value.int .i64 0, Value.int .i64 0, Value.int .i64 1, Value.int .i64 2, Value.int .i64 3, Value.int .i64 4, Value.int .i64 4, Value.int .i64 5, Value.int .i64 5, Value.int .i64 5] : List Value).length, ([Value.int .i64 0, Value.int .i64 0, Value.int .i64 1, Value.int .i64 2, Value.int .i64 3, Value.int .i64 4, Value.int .i64 4, Value.int .i64 5, Value.int .i64 5, Value.int .i64 5] : List Value)[q]'h = .int .i64 kd := fun h => Option.some.inj ((List.getElem?_eq_getElem h).symm.trans ((List.getElem?_toArray (xs := [Value.int .i64 0, Value.int .i64 0, Value.int .i64 1, Value.int .i64 2, Value.int .i64 3, Value.int .i64 4, Value.int .i64 4, Value.int .i64 5, Value.int .i64 5, Value.int .i64 5]) (i := q)).symm.trans hkd))
            have ht : cc.tmod 10 = (q : Int) := by rw [Int.tmod_eq_emod_of_nonneg hcc.1]; exact hq
            obtain ⟨k9, hk9, hk90, hk91⟩ : ∃ k9, k.tmod 9 = k9 ∧ 0 ≤ k9 ∧ k9 ≤ 8 := ⟨k.tmod 9, rfl, by rw [Int.tmod_eq_emod_of_nonneg hk.1]; omega, by rw [Int.tmod_eq_emod_of_nonneg hk.1]; omega⟩
            have hkw : IntKind.i64.wrap (k9 + 2) = k9 + 2 := by rw [IntKind.wrap_i64]; omega
            have hkz : (k9 + 2 = 0) = False := by simp; omega
            have hkz2 : (k9 + 2 == 0) = false := by simp; omega
            have hqi : ((q : Int) < 10) = True := by simp; omega
            clear hq
            refine wp_region_any (by kernel_rfl) ?_
            change wpAny _ _ _ _ _ _ _ (World.drew _)
            obtain ⟨wa, hwa⟩ : ∃ x, w2.drew = x := ⟨_, rfl⟩
            rw [hwa]
            have HDa := HD2.out.drew
            rw [hwa] at HDa
            have HDa := Lib.hid HDa
            clear hwa HD2
            refine wpAny_take (i := 1) (v := ?v1n1) rfl (by kernel_rfl) (by kernel_rfl) (by kernel_rfl) (fun _ _ _ h => h) (Or.inl ⟨by kernel_rfl, ?y1n1⟩) ?r1n1
            case y1n1 => (intro w; go_simp; first | done | with_reducible rfl)
            refine wpAny_take (i := 2) (v := ?v2n2) rfl (by kernel_rfl) (by kernel_rfl) (by kernel_rfl) (fun _ _ _ h => h) (Or.inl ⟨by kernel_rfl, ?y2n2⟩) ?r2n2
            case y2n2 => (intro w; go_simp; first | done | with_reducible rfl)
            refine wpAny_take (i := 5) (v := ?v5n3) rfl (by kernel_rfl) (by kernel_rfl) (by kernel_rfl) (fun _ _ _ h => h) (Or.inl ⟨by kernel_rfl, ?y5n3⟩) ?r5n3
            case y5n3 => (intro w; go_simp; first | done | with_reducible rfl)
            refine wpAny_take (i := 7) (v := ?v7n4) rfl (by kernel_rfl) (by kernel_rfl) (by kernel_rfl) (fun _ _ _ h => h) (Or.inl ⟨by kernel_rfl, ?y7n4⟩) ?r7n4
            case y7n4 => (intro w; go_simp; first | done | with_reducible rfl)
            refine wpAny_take (i := 8) (v := ?v8n5) rfl (by kernel_rfl) (by kernel_rfl) (by kernel_rfl) (fun _ _ _ h => h) (Or.inl ⟨by kernel_rfl, ?y8n5⟩) ?r8n5
            case y8n5 => (intro w; go_simp; first | done | with_reducible rfl)
            refine wpAny_take (i := 9) (v := ?v9n6) rfl (by kernel_rfl) (by kernel_rfl) (by kernel_rfl) (fun _ _ _ h => h) (Or.inl ⟨by kernel_rfl, ?y9n6⟩) ?r9n6
            case y9n6 => (intro w; go_simp; first | done | with_reducible rfl)
            refine wpAny_take (i := 11) (v := ?v11n7) rfl (by kernel_rfl) (by kernel_rfl) (by kernel_rfl) (fun _ _ _ h => h) (Or.inl ⟨by kernel_rfl, ?y11n7⟩) ?r11n7
            case y11n7 => (intro w; go_simp; first | done | with_reducible rfl)
            refine wpAny_take (i := 12) (v := ?v12n8) rfl (by kernel_rfl) (by kernel_rfl) (by kernel_rfl) (fun _ _ _ h => h) (Or.inl ⟨by kernel_rfl, ?y12n8⟩) ?r12n8
            case y12n8 => (intro w; go_simp; first | done | with_reducible rfl)
            refine wpAny_take (i := 14) (v := ?v14n9) rfl (by kernel_rfl) (by kernel_rfl) (by kernel_rfl) (fun _ _ _ h => h) (Or.inl ⟨by kernel_rfl, ?y14n9⟩) ?r14n9
            case y14n9 => (intro w; go_simp; first | done | with_reducible rfl)
            refine wpAny_take (i := 15) (v := ?v15n10) rfl (by kernel_rfl) (by kernel_rfl) (by kernel_rfl) (fun _ _ _ h => h) (Or.inl ⟨by kernel_rfl, ?y15n10⟩) ?r15n10
            case y15n10 => (intro w; go_simp; first | done | with_reducible rfl)
            refine wpAny_take (i := 16) (v := ?v16n11) rfl (by kernel_rfl) (by kernel_rfl) (by kernel_rfl) (fun _ _ _ h => h) (Or.inl ⟨by kernel_rfl, ?y16n11⟩) ?r16n11
            case y16n11 => (intro w; go_simp; first | done | with_reducible rfl)
            refine wpAny_ready (rs := [0, 6, 18]) (by kernel_rfl) (by simp) ?_
            refine AllReady.cons rfl (fun K hK => ?_) (AllReady.cons rfl (fun K hK => ?_) (AllReady.cons rfl (fun K hK => ?_) (AllReady.nil)))
            · go_simp
              refine hK _ _ ?_
              clear hK K
              obtain ⟨rb, hrb⟩ : ∃ x, wa.heap.size = x := ⟨_, rfl⟩
              obtain ⟨w12, hw12⟩ : ∃ x, wa.alloc (.cells kinds 3) = x := ⟨_, rfl⟩
              rw [hw12, hrb]
              have HRC := Lib.hid (show w12.heap[rb]? = some (.cells kinds 3 (0, 0)) from by rw [← hw12, ← hrb]; exact alloc_new _ _)
              have HNE := Lib.hid (show rb ≠ g from by have := HDa.out.rd.lt; omega)
              have HD12 := HDa.out.alloc (.cells kinds 3)
              rw [hw12] at HD12
              have HD12 := Lib.hid HD12
              clear hw12 hrb HDa
              refine wpAny_take (i := 3) (v := ?v3n13) rfl (by kernel_rfl) (by kernel_rfl) (by kernel_rfl) (fun _ _ _ h => h) (Or.inl ⟨by kernel_rfl, ?y3n13⟩) ?r3n13
              case y3n13 => (intro w; go_simp; first | done | with_reducible rfl)
              refine wpAny_ready (rs := [4, 6, 18]) (by kernel_rfl) (by simp) ?_
              refine AllReady.cons rfl (fun K hK => ?_) (AllReady.cons rfl (fun K hK => ?_) (AllReady.cons rfl (fun K hK => ?_) (AllReady.nil)))
              · have hq4 := (bcell HRC.out q).trans hkd
                go_simp
                refine hK _ _ ?_
                clear hK K hq4
                refine wpAny_ready (rs := [6, 18]) (by kernel_rfl) (by simp) ?_
                refine AllReady.cons rfl (fun K hK => ?_) (AllReady.cons rfl (fun K hK => ?_) (AllReady.nil))
                · go_simp
                  go_at_call 40
                  refine (next_any HS.out hl HD12.out.rd HD12.out.b).mono ?_
                  rintro e w15 ⟨r2, rfl, hr2, hI5, hB5, hk5⟩
                  refine hK _ _ ?_
                  clear hK K
                  have HD15 := Lib.hid (HD12.out.keep hk5 hI5 hB5)
                  clear hI5 hB5 hk5 HD12
                  refine wpAny_take (i := 10) (v := ?v10n16) rfl (by kernel_rfl) (by kernel_rfl) (by kernel_rfl) (fun _ _ _ h => h) (Or.inl ⟨by kernel_rfl, ?y10n16⟩) ?r10n16
                  case y10n16 => (intro w; go_simp; first | done | with_reducible rfl)
                  refine wpAny_take (i := 13) (v := ?v13n17) rfl (by kernel_rfl) (by kernel_rfl) (by kernel_rfl) (fun _ _ _ h => h) (Or.inl ⟨by kernel_rfl, ?y13n17⟩) ?r13n17
                  case y13n17 => (intro w; go_simp; first | done | with_reducible rfl)
                  refine wpAny_take (i := 17) (v := ?v17n18) rfl (by kernel_rfl) (by kernel_rfl) (by kernel_rfl) (fun _ _ _ h => h) (Or.inl ⟨by kernel_rfl, ?y17n18⟩) ?r17n18
                  case y17n18 => (intro w; go_simp; first | done | with_reducible rfl)
                  refine wpAny_ready (rs := [18]) (by kernel_rfl) (by simp) ?_
                  refine AllReady.cons rfl (fun K hK => ?_) (AllReady.nil)
                  · go_simp
                    refine hK _ _ ?_
                    clear hK K
                    obtain ⟨bb, hbb⟩ : ∃ x, w15.heap.size = x := ⟨_, rfl⟩
                    obtain ⟨w19, hw19⟩ : ∃ x, w15.alloc (.cells #[.int .i64 0, .int .i64 0, .int .i64 0, .int .u64 0, .int .i64 0, .slice none 0 0] 52) = x := ⟨_, rfl⟩
                    rw [hw19, hbb]
                    have HD19 := HD15.out.box 0 0 0
                    rw [hw19, hbb] at HD19
                    have HD19 := Lib.hid HD19
                    clear hw19 hbb HD15
                    obtain ⟨⟨m0, m1, m2, m3, m4, m5⟩, mf⟩ := HD19.out.cells
                    refine wpAny_ready (rs := [19]) (by kernel_rfl) (by simp) ?_
                    refine AllReady.cons rfl (fun K hK => ?_) AllReady.nil
                    go_simp
                    refine hK _ _ ?_
                    clear hK K m0 m1 m2 m3 m4 m5 mf
                    refine wpAny_done (by kernel_rfl) ?_ _
                    go_wp2_with fail
                    go_meet
                    exact ⟨_, _, _, _, rfl, Lib.hid (DsO.set6 HD19.out _ _ _)⟩
                · go_simp
                  refine hK _ _ ?_
                  clear hK K
                  obtain ⟨bb, hbb⟩ : ∃ x, w12.heap.size = x := ⟨_, rfl⟩
                  obtain ⟨w20, hw20⟩ : ∃ x, w12.alloc (.cells #[.int .i64 0, .int .i64 0, .int .i64 0, .int .u64 0, .int .i64 0, .slice none 0 0] 52) = x := ⟨_, rfl⟩
                  rw [hw20, hbb]
                  have HD20 := HD12.out.box 0 0 0
                  rw [hw20, hbb] at HD20
                  have HD20 := Lib.hid HD20
                  clear hw20 hbb HD12
                  refine wpAny_ready (rs := [6]) (by kernel_rfl) (by simp) ?_
                  refine AllReady.cons rfl (fun K hK => ?_) (AllReady.nil)
                  · go_simp
                    go_at_call 40
                    refine (next_any HS.out hl HD20.out.rd HD20.out.b).mono ?_
                    rintro e w21 ⟨r2, rfl, hr2, hI5, hB5, hk5⟩
                    refine hK _ _ ?_
                    clear hK K
                    have HD21 := Lib.hid (HD20.out.keep hk5 hI5 hB5)
                    clear hI5 hB5 hk5 HD20
                    refine wpAny_take (i := 10) (v := ?v10n22) rfl (by kernel_rfl) (by kernel_rfl) (by kernel_rfl) (fun _ _ _ h => h) (Or.inl ⟨by kernel_rfl, ?y10n22⟩) ?r10n22
                    case y10n22 => (intro w; go_simp; first | done | with_reducible rfl)
                    refine wpAny_take (i := 13) (v := ?v13n23) rfl (by kernel_rfl) (by kernel_rfl) (by kernel_rfl) (fun _ _ _ h => h) (Or.inl ⟨by kernel_rfl, ?y13n23⟩) ?r13n23
                    case y13n23 => (intro w; go_simp; first | done | with_reducible rfl)
                    refine wpAny_take (i := 17) (v := ?v17n24) rfl (by kernel_rfl) (by kernel_rfl) (by kernel_rfl) (fun _ _ _ h => h) (Or.inl ⟨by kernel_rfl, ?y17n24⟩) ?r17n24
                    case y17n24 => (intro w; go_simp; first | done | with_reducible rfl)
                    obtain ⟨⟨m0, m1, m2, m3, m4, m5⟩, mf⟩ := HD21.out.cells
                    refine wpAny_ready (rs := [19]) (by kernel_rfl) (by simp) ?_
                    refine AllReady.cons rfl (fun K hK => ?_) AllReady.nil
                    go_simp
                    refine hK _ _ ?_
                    clear hK K m0 m1 m2 m3 m4 m5 mf
                    refine wpAny_done (by kernel_rfl) ?_ _
                    go_wp2_with fail
                    go_meet
                    exact ⟨_, _, _, _, rfl, Lib.hid (DsO.set6 HD21.out _ _ _)⟩
              · go_simp
                go_at_call 40
                refine (next_any HS.out hl HD12.out.rd HD12.out.b).mono ?_
                rintro e w25 ⟨r2, rfl, hr2, hI5, hB5, hk5⟩
                refine hK _ _ ?_
                clear hK K
                have HD25 := Lib.hid (HD12.out.keep hk5 hI5 hB5)
                have HRC2 := Lib.hid ((hk5.2 _ (lt_of HRC.out) HNE.out (by simp)).trans HRC.out)
                clear HRC
                have HRC := HRC2
                clear HRC2
                clear hI5 hB5 hk5 HD12
                refine wpAny_take (i := 10) (v := ?v10n26) rfl (by kernel_rfl) (by kernel_rfl) (by kernel_rfl) (fun _ _ _ h => h) (Or.inl ⟨by kernel_rfl, ?y10n26⟩) ?r10n26
                case y10n26 => (intro w; go_simp; first | done | with_reducible rfl)
                refine wpAny_take (i := 13) (v := ?v13n27) rfl (by kernel_rfl) (by kernel_rfl) (by kernel_rfl) (fun _ _ _ h => h) (Or.inl ⟨by kernel_rfl, ?y13n27⟩) ?r13n27
                case y13n27 => (intro w; go_simp; first | done | with_reducible rfl)
                refine wpAny_ready (rs := [4, 18]) (by kernel_rfl) (by simp) ?_
                refine AllReady.cons rfl (fun K hK => ?_) (AllReady.cons rfl (fun K hK => ?_) (AllReady.nil))
                · have hq4 := (bcell HRC.out q).trans hkd
                  go_simp
                  refine hK _ _ ?_
                  clear hK K hq4
                  refine wpAny_take (i := 17) (v := ?v17n29) rfl (by kernel_rfl) (by kernel_rfl) (by kernel_rfl) (fun _ _ _ h => h) (Or.inl ⟨by kernel_rfl, ?y17n29⟩) ?r17n29
                  case y17n29 => (intro w; go_simp; first | done | with_reducible rfl)
                  refine wpAny_ready (rs := [18]) (by kernel_rfl) (by simp) ?_
                  refine AllReady.cons rfl (fun K hK => ?_) (AllReady.nil)
                  · go_simp
                    refine hK _ _ ?_
                    clear hK K
                    obtain ⟨bb, hbb⟩ : ∃ x, w25.heap.size = x := ⟨_, rfl⟩
                    obtain ⟨w30, hw30⟩ : ∃ x, w25.alloc (.cells #[.int .i64 0, .int .i64 0, .int .i64 0, .int .u64 0, .int .i64 0, .slice none 0 0] 52) = x := ⟨_, rfl⟩
                    rw [hw30, hbb]
                    have HD30 := HD25.out.box 0 0 0
                    rw [hw30, hbb] at HD30
                    have HD30 := Lib.hid HD30
                    clear hw30 hbb HD25
                    obtain ⟨⟨m0, m1, m2, m3, m4, m5⟩, mf⟩ := HD30.out.cells
                    refine wpAny_ready (rs := [19]) (by kernel_rfl) (by simp) ?_
                    refine AllReady.cons rfl (fun K hK => ?_) AllReady.nil
                    go_simp
                    refine hK _ _ ?_
                    clear hK K m0 m1 m2 m3 m4 m5 mf
                    refine wpAny_done (by kernel_rfl) ?_ _
                    go_wp2_with fail
                    go_meet
                    exact ⟨_, _, _, _, rfl, Lib.hid (DsO.set6 HD30.out _ _ _)⟩
                · go_simp
                  refine hK _ _ ?_
                  clear hK K
                  obtain ⟨bb, hbb⟩ : ∃ x, w25.heap.size = x := ⟨_, rfl⟩
                  obtain ⟨w31, hw31⟩ : ∃ x, w25.alloc (.cells #[.int .i64 0, .int .i64 0, .int .i64 0, .int .u64 0, .int .i64 0, .slice none 0 0] 52) = x := ⟨_, rfl⟩
                  rw [hw31, hbb]
                  have HD31 := HD25.out.box 0 0 0
                  rw [hw31, hbb] at HD31
                  have HD31 := Lib.hid HD31
                  have HRC2 := Lib.hid (show w31.heap[rb]? = some (.cells kinds 3 (0, 0)) from by rw [← hw31]; exact alloc_old HRC.out _)
                  clear HRC
                  have HRC := HRC2
                  clear HRC2
                  clear hw31 hbb HD25
                  refine wpAny_ready (rs := [4]) (by kernel_rfl) (by simp) ?_
                  refine AllReady.cons rfl (fun K hK => ?_) (AllReady.nil)
                  · have hq4 := (bcell HRC.out q).trans hkd
                    go_simp
                    refine hK _ _ ?_
                    clear hK K hq4
                    refine wpAny_take (i := 17) (v := ?v17n33) rfl (by kernel_rfl) (by kernel_rfl) (by kernel_rfl) (fun _ _ _ h => h) (Or.inl ⟨by kernel_rfl, ?y17n33⟩) ?r17n33
                    case y17n33 => (intro w; go_simp; first | done | with_reducible rfl)
                    obtain ⟨⟨m0, m1, m2, m3, m4, m5⟩, mf⟩ := HD31.out.cells
                    refine wpAny_ready (rs := [19]) (by kernel_rfl) (by simp) ?_
                    refine AllReady.cons rfl (fun K hK => ?_) AllReady.nil
                    go_simp
                    refine hK _ _ ?_
                    clear hK K m0 m1 m2 m3 m4 m5 mf
                    refine wpAny_done (by kernel_rfl) ?_ _
                    go_wp2_with fail
                    go_meet
                    exact ⟨_, _, _, _, rfl, Lib.hid (DsO.set6 HD31.out _ _ _)⟩
              · go_simp
                refine hK _ _ ?_
                clear hK K
                obtain ⟨bb, hbb⟩ : ∃ x, w12.heap.size = x := ⟨_, rfl⟩
                obtain ⟨w34, hw34⟩ : ∃ x, w12.alloc (.cells #[.int .i64 0, .int .i64 0, .int .i64 0, .int .u64 0, .int .i64 0, .slice none 0 0] 52) = x := ⟨_, rfl⟩
                rw [hw34, hbb]
                have HD34 := HD12.out.box 0 0 0
                rw [hw34, hbb] at HD34
                have HD34 := Lib.hid HD34
                have HRC2 := Lib.hid (show w34.heap[rb]? = some (.cells kinds 3 (0, 0)) from by rw [← hw34]; exact alloc_old HRC.out _)
                clear HRC
                have HRC := HRC2
                clear HRC2
                clear hw34 hbb HD12
                refine wpAny_ready (rs := [4, 6]) (by kernel_rfl) (by simp) ?_
                refine AllReady.cons rfl (fun K hK => ?_) (AllReady.cons rfl (fun K hK => ?_) (AllReady.nil))
                · have hq4 := (bcell HRC.out q).trans hkd
                  go_simp
                  refine hK _ _ ?_
                  clear hK K hq4
                  refine wpAny_ready (rs := [6]) (by kernel_rfl) (by simp) ?_
                  refine AllReady.cons rfl (fun K hK => ?_) (AllReady.nil)
                  · go_simp
                    go_at_call 40
                    refine (next_any HS.out hl HD34.out.rd HD34.out.b).mono ?_
                    rintro e w36 ⟨r2, rfl, hr2, hI5, hB5, hk5⟩
                    refine hK _ _ ?_
                    clear hK K
                    have HD36 := Lib.hid (HD34.out.keep hk5 hI5 hB5)
                    clear hI5 hB5 hk5 HD34
                    refine wpAny_take (i := 10) (v := ?v10n37) rfl (by kernel_rfl) (by kernel_rfl) (by kernel_rfl) (fun _ _ _ h => h) (Or.inl ⟨by kernel_rfl, ?y10n37⟩) ?r10n37
                    case y10n37 => (intro w; go_simp; first | done | with_reducible rfl)
                    refine wpAny_take (i := 13) (v := ?v13n38) rfl (by kernel_rfl) (by kernel_rfl) (by kernel_rfl) (fun _ _ _ h => h) (Or.inl ⟨by kernel_rfl, ?y13n38⟩) ?r13n38
                    case y13n38 => (intro w; go_simp; first | done | with_reducible rfl)
                    refine wpAny_take (i := 17) (v := ?v17n39) rfl (by kernel_rfl) (by kernel_rfl) (by kernel_rfl) (fun _ _ _ h => h) (Or.inl ⟨by kernel_rfl, ?y17n39⟩) ?r17n39
                    case y17n39 => (intro w; go_simp; first | done | with_reducible rfl)
                    obtain ⟨⟨m0, m1, m2, m3, m4, m5⟩, mf⟩ := HD36.out.cells
                    refine wpAny_ready (rs := [19]) (by kernel_rfl) (by simp) ?_
                    refine AllReady.cons rfl (fun K hK => ?_) AllReady.nil
                    go_simp
                    refine hK _ _ ?_
                    clear hK K m0 m1 m2 m3 m4 m5 mf
                    refine wpAny_done (by kernel_rfl) ?_ _
                    go_wp2_with fail
                    go_meet
                    exact ⟨_, _, _, _, rfl, Lib.hid (DsO.set6 HD36.out _ _ _)⟩
                · go_simp
                  go_at_call 40
                  refine (next_any HS.out hl HD34.out.rd HD34.out.b).mono ?_
                  rintro e w40 ⟨r2, rfl, hr2, hI5, hB5, hk5⟩
                  refine hK _ _ ?_
                  clear hK K
                  have HD40 := Lib.hid (HD34.out.keep hk5 hI5 hB5)
                  have HRC2 := Lib.hid ((hk5.2 _ (lt_of HRC.out) HNE.out (by simp)).trans HRC.out)
                  clear HRC
                  have HRC := HRC2
                  clear HRC2
                  clear hI5 hB5 hk5 HD34
                  refine wpAny_take (i := 10) (v := ?v10n41) rfl (by kernel_rfl) (by kernel_rfl) (by kernel_rfl) (fun _ _ _ h => h) (Or.inl ⟨by kernel_rfl, ?y10n41⟩) ?r10n41
                  case y10n41 => (intro w; go_simp; first | done | with_reducible rfl)
                  refine wpAny_take (i := 13) (v := ?v13n42) rfl (by kernel_rfl) (by kernel_rfl) (by kernel_rfl) (fun _ _ _ h => h) (Or.inl ⟨by kernel_rfl, ?y13n42⟩) ?r13n42
                  case y13n42 => (intro w; go_simp; first | done | with_reducible rfl)
                  refine wpAny_ready (rs := [4]) (by kernel_rfl) (by simp) ?_
                  refine AllReady.cons rfl (fun K hK => ?_) (AllReady.nil)
                  · have hq4 := (bcell HRC.out q).trans hkd
                    go_simp
                    refine hK _ _ ?_
                    clear hK K hq4
                    refine wpAny_take (i := 17) (v := ?v17n44) rfl (by kernel_rfl) (by kernel_rfl) (by kernel_rfl) (fun _ _ _ h => h) (Or.inl ⟨by kernel_rfl, ?y17n44⟩) ?r17n44
                    case y17n44 => (intro w; go_simp; first | done | with_reducible rfl)
                    obtain ⟨⟨m0, m1, m2, m3, m4, m5⟩, mf⟩ := HD40.out.cells
                    refine wpAny_ready (rs := [19]) (by kernel_rfl) (by simp) ?_
                    refine AllReady.cons rfl (fun K hK => ?_) AllReady.nil
                    go_simp
                    refine hK _ _ ?_
                    clear hK K m0 m1 m2 m3 m4 m5 mf
                    refine wpAny_done (by kernel_rfl) ?_ _
                    go_wp2_with fail
                    go_meet
                    exact ⟨_, _, _, _, rfl, Lib.hid (DsO.set6 HD40.out _ _ _)⟩
            · go_simp
              go_at_call 40
              refine (next_any HS.out hl HDa.out.rd HDa.out.b).mono ?_
              rintro e w45 ⟨r2, rfl, hr2, hI5, hB5, hk5⟩
              refine hK _ _ ?_
              clear hK K
              have HD45 := Lib.hid (HDa.out.keep hk5 hI5 hB5)
              clear hI5 hB5 hk5 HDa
              refine wpAny_take (i := 10) (v := ?v10n46) rfl (by kernel_rfl) (by kernel_rfl) (by kernel_rfl) (fun _ _ _ h => h) (Or.inl ⟨by kernel_rfl, ?y10n46⟩) ?r10n46
              case y10n46 => (intro w; go_simp; first | done | with_reducible rfl)
              refine wpAny_take (i := 13) (v := ?v13n47) rfl (by kernel_rfl) (by kernel_rfl) (by kernel_rfl) (fun _ _ _ h => h) (Or.inl ⟨by kernel_rfl, ?y13n47⟩) ?r13n47
              case y13n47 => (intro w; go_simp; first | done | with_reducible rfl)
              refine wpAny_ready (rs := [0, 18]) (by kernel_rfl) (by simp) ?_
              refine AllReady.cons rfl (fun K hK => ?_) (AllReady.cons rfl (fun K hK => ?_) (AllReady.nil))
              · go_simp
                refine hK _ _ ?_
                clear hK K
                obtain ⟨rb, hrb⟩ : ∃ x, w45.heap.size = x := ⟨_, rfl⟩
                obtain ⟨w48, hw48⟩ : ∃ x, w45.alloc (.cells kinds 3) = x := ⟨_, rfl⟩
                rw [hw48, hrb]
                have HRC := Lib.hid (show w48.heap[rb]? = some (.cells kinds 3 (0, 0)) from by rw [← hw48, ← hrb]; exact alloc_new _ _)
                have HNE := Lib.hid (show rb ≠ g from by have := HD45.out.rd.lt; omega)
                have HD48 := HD45.out.alloc (.cells kinds 3)
                rw [hw48] at HD48
                have HD48 := Lib.hid HD48
                clear hw48 hrb HD45
                refine wpAny_take (i := 3) (v := ?v3n49) rfl (by kernel_rfl) (by kernel_rfl) (by kernel_rfl) (fun _ _ _ h => h) (Or.inl ⟨by kernel_rfl, ?y3n49⟩) ?r3n49
                case y3n49 => (intro w; go_simp; first | done | with_reducible rfl)
                refine wpAny_ready (rs := [4, 18]) (by kernel_rfl) (by simp) ?_
                refine AllReady.cons rfl (fun K hK => ?_) (AllReady.cons rfl (fun K hK => ?_) (AllReady.nil))
                · have hq4 := (bcell HRC.out q).trans hkd
                  go_simp
                  refine hK _ _ ?_
                  clear hK K hq4
                  refine wpAny_take (i := 17) (v := ?v17n51) rfl (by kernel_rfl) (by kernel_rfl) (by kernel_rfl) (fun _ _ _ h => h) (Or.inl ⟨by kernel_rfl, ?y17n51⟩) ?r17n51
                  case y17n51 => (intro w; go_simp; first | done | with_reducible rfl)
                  refine wpAny_ready (rs := [18]) (by kernel_rfl) (by simp) ?_
                  refine AllReady.cons rfl (fun K hK => ?_) (AllReady.nil)
                  · go_simp
                    refine hK _ _ ?_
                    clear hK K
                    obtain ⟨bb, hbb⟩ : ∃ x, w48.heap.size = x := ⟨_, rfl⟩
                    obtain ⟨w52, hw52⟩ : ∃ x, w48.alloc (.cells #[.int .i64 0, .int .i64 0, .int .i64 0, .int .u64 0, .int .i64 0, .slice none 0 0] 52) = x := ⟨_, rfl⟩
                    rw [hw52, hbb]
                    have HD52 := HD48.out.box 0 0 0
                    rw [hw52, hbb] at HD52
                    have HD52 := Lib.hid HD52
                    clear hw52 hbb HD48
                    obtain ⟨⟨m0, m1, m2, m3, m4, m5⟩, mf⟩ := HD52.out.cells
                    refine wpAny_ready (rs := [19]) (by kernel_rfl) (by simp) ?_
                    refine AllReady.cons rfl (fun K hK => ?_) AllReady.nil
                    go_simp
                    refine hK _ _ ?_
                    clear hK K m0 m1 m2 m3 m4 m5 mf
                    refine wpAny_done (by kernel_rfl) ?_ _
                    go_wp2_with fail
                    go_meet
                    exact ⟨_, _, _, _, rfl, Lib.hid (DsO.set6 HD52.out _ _ _)⟩
                · go_simp
                  refine hK _ _ ?_
                  clear hK K
                  obtain ⟨bb, hbb⟩ : ∃ x, w48.heap.size = x := ⟨_, rfl⟩
                  obtain ⟨w53, hw53⟩ : ∃ x, w48.alloc (.cells #[.int .i64 0, .int .i64 0, .int .i64 0, .int .u64 0, .int .i64 0, .slice none 0 0] 52) = x := ⟨_, rfl⟩
                  rw [hw53, hbb]
                  have HD53 := HD48.out.box 0 0 0
                  rw [hw53, hbb] at HD53
                  have HD53 := Lib.hid HD53
                  have HRC2 := Lib.hid (show w53.heap[rb]? = some (.cells kinds 3 (0, 0)) from by rw [← hw53]; exact alloc_old HRC.out _)
                  clear HRC
                  have HRC := HRC2
                  clear HRC2
                  clear hw53 hbb HD48
                  refine wpAny_ready (rs := [4]) (by kernel_rfl) (by simp) ?_
                  refine AllReady.cons rfl (fun K hK => ?_) (AllReady.nil)
                  · have hq4 := (bcell HRC.out q).trans hkd
                    go_simp
                    refine hK _ _ ?_
                    clear hK K hq4
                    refine wpAny_take (i := 17) (v := ?v17n55) rfl (by kernel_rfl) (by kernel_rfl) (by kernel_rfl) (fun _ _ _ h => h) (Or.inl ⟨by kernel_rfl, ?y17n55⟩) ?r17n55
                    case y17n55 => (intro w; go_simp; first | done | with_reducible rfl)
                    obtain ⟨⟨m0, m1, m2, m3, m4, m5⟩, mf⟩ := HD53.out.cells
                    refine wpAny_ready (rs := [19]) (by kernel_rfl) (by simp) ?_
                    refine AllReady.cons rfl (fun K hK => ?_) AllReady.nil
                    go_simp
                    refine hK _ _ ?_
                    clear hK K m0 m1 m2 m3 m4 m5 mf
                    refine wpAny_done (by kernel_rfl) ?_ _
                    go_wp2_with fail
                    go_meet
                    exact ⟨_, _, _, _, rfl, Lib.hid (DsO.set6 HD53.out _ _ _)⟩
              · go_simp
                refine hK _ _ ?_
                clear hK K
                obtain ⟨bb, hbb⟩ : ∃ x, w45.heap.size = x := ⟨_, rfl⟩
                obtain ⟨w56, hw56⟩ : ∃ x, w45.alloc (.cells #[.int .i64 0, .int .i64 0, .int .i64 0, .int .u64 0, .int .i64 0, .slice none 0 0] 52) = x := ⟨_, rfl⟩
                rw [hw56, hbb]
                have HD56 := HD45.out.box 0 0 0
                rw [hw56, hbb] at HD56
                have HD56 := Lib.hid HD56
                clear hw56 hbb HD45
                refine wpAny_ready (rs := [0]) (by kernel_rfl) (by simp) ?_
                refine AllReady.cons rfl (fun K hK => ?_) (AllReady.nil)
                · go_simp
                  refine hK _ _ ?_
                  clear hK K
                  obtain ⟨rb, hrb⟩ : ∃ x, w56.heap.size = x := ⟨_, rfl⟩
                  obtain ⟨w57, hw57⟩ : ∃ x, w56.alloc (.cells kinds 3) = x := ⟨_, rfl⟩
                  rw [hw57, hrb]
                  have HRC := Lib.hid (show w57.heap[rb]? = some (.cells kinds 3 (0, 0)) from by rw [← hw57, ← hrb]; exact alloc_new _ _)
                  have HNE := Lib.hid (show rb ≠ g from by have := HD56.out.rd.lt; omega)
                  have HD57 := HD56.out.alloc (.cells kinds 3)
                  rw [hw57] at HD57
                  have HD57 := Lib.hid HD57
                  clear hw57 hrb HD56
                  refine wpAny_take (i := 3) (v := ?v3n58) rfl (by kernel_rfl) (by kernel_rfl) (by kernel_rfl) (fun _ _ _ h => h) (Or.inl ⟨by kernel_rfl, ?y3n58⟩) ?r3n58
                  case y3n58 => (intro w; go_simp; first | done | with_reducible rfl)
                  refine wpAny_ready (rs := [4]) (by kernel_rfl) (by simp) ?_
                  refine AllReady.cons rfl (fun K hK => ?_) (AllReady.nil)
                  · have hq4 := (bcell HRC.out q).trans hkd
                    go_simp
                    refine hK _ _ ?_
                    clear hK K hq4
                    refine wpAny_take (i := 17) (v := ?v17n60) rfl (by kernel_rfl) (by kernel_rfl) (by kernel_rfl) (fun _ _ _ h => h) (Or.inl ⟨by kernel_rfl, ?y17n60⟩) ?r17n60
                    case y17n60 => (intro w; go_simp; first | done | with_reducible rfl)
                    obtain ⟨⟨m0, m1, m2, m3, m4, m5⟩, mf⟩ := HD57.out.cells
                    refine wpAny_ready (rs := [19]) (by kernel_rfl) (by simp) ?_
                    refine AllReady.cons rfl (fun K hK => ?_) AllReady.nil
                    go_simp
                    refine hK _ _ ?_
                    clear hK K m0 m1 m2 m3 m4 m5 mf
                    refine wpAny_done (by kernel_rfl) ?_ _
                    go_wp2_with fail
                    go_meet
                    exact ⟨_, _, _, _, rfl, Lib.hid (DsO.set6 HD57.out _ _ _)⟩
            · go_simp
              refine hK _ _ ?_
              clear hK K
              obtain ⟨bb, hbb⟩ : ∃ x, wa.heap.size = x := ⟨_, rfl⟩
              obtain ⟨w61, hw61⟩ : ∃ x, wa.alloc (.cells #[.int .i64 0, .int .i64 0, .int .i64 0, .int .u64 0, .int .i64 0, .slice none 0 0] 52) = x := ⟨_, rfl⟩
              rw [hw61, hbb]
              have HD61 := HDa.out.box 0 0 0
              rw [hw61, hbb] at HD61
              have HD61 := Lib.hid HD61
              clear hw61 hbb HDa
              refine wpAny_ready (rs := [0, 6]) (by kernel_rfl) (by simp) ?_
              refine AllReady.cons rfl (fun K hK => ?_) (AllReady.cons rfl (fun K hK => ?_) (AllReady.nil))
              · go_simp
                refine hK _ _ ?_
                clear hK K
                obtain ⟨rb, hrb⟩ : ∃ x, w61.heap.size = x := ⟨_, rfl⟩
                obtain ⟨w62, hw62⟩ : ∃ x, w61.alloc (.cells kinds 3) = x := ⟨_, rfl⟩
                rw [hw62, hrb]
                have HRC := Lib.hid (show w62.heap[rb]? = some (.cells kinds 3 (0, 0)) from by rw [← hw62, ← hrb]; exact alloc_new _ _)
                have HNE := Lib.hid (show rb ≠ g from by have := HD61.out.rd.lt; omega)
                have HD62 := HD61.out.alloc (.cells kinds 3)
                rw [hw62] at HD62
                have HD62 := Lib.hid HD62
                clear hw62 hrb HD61
                refine wpAny_take (i := 3) (v := ?v3n63) rfl (by kernel_rfl) (by kernel_rfl) (by kernel_rfl) (fun _ _ _ h => h) (Or.inl ⟨by kernel_rfl, ?y3n63⟩) ?r3n63
                case y3n63 => (intro w; go_simp; first | done | with_reducible rfl)
                refine wpAny_ready (rs := [4, 6]) (by kernel_rfl) (by simp) ?_
                refine AllReady.cons rfl (fun K hK => ?_) (AllReady.cons rfl (fun K hK => ?_) (AllReady.nil))
                · have hq4 := (bcell HRC.out q).trans hkd
                  go_simp
                  refine hK _ _ ?_
                  clear hK K hq4
                  refine wpAny_ready (rs := [6]) (by kernel_rfl) (by simp) ?_
                  refine AllReady.cons rfl (fun K hK => ?_) (AllReady.nil)
                  · go_simp
                    go_at_call 40
                    refine (next_any HS.out hl HD62.out.rd HD62.out.b).mono ?_
                    rintro e w65 ⟨r2, rfl, hr2, hI5, hB5, hk5⟩
                    refine hK _ _ ?_
                    clear hK K
                    have HD65 := Lib.hid (HD62.out.keep hk5 hI5 hB5)
                    clear hI5 hB5 hk5 HD62
                    refine wpAny_take (i := 10) (v := ?v10n66) rfl (by kernel_rfl) (by kernel_rfl) (by kernel_rfl) (fun _ _ _ h => h) (Or.inl ⟨by kernel_rfl, ?y10n66⟩) ?r10n66
                    case y10n66 => (intro w; go_simp; first | done | with_reducible rfl)
                    refine wpAny_take (i := 13) (v := ?v13n67) rfl (by kernel_rfl) (by kernel_rfl) (by kernel_rfl) (fun _ _ _ h => h) (Or.inl ⟨by kernel_rfl, ?y13n67⟩) ?r13n67
                    case y13n67 => (intro w; go_simp; first | done | with_reducible rfl)
                    refine wpAny_take (i := 17) (v := ?v17n68) rfl (by kernel_rfl) (by kernel_rfl) (by kernel_rfl) (fun _ _ _ h => h) (Or.inl ⟨by kernel_rfl, ?y17n68⟩) ?r17n68
                    case y17n68 => (intro w; go_simp; first | done | with_reducible rfl)
                    obtain ⟨⟨m0, m1, m2, m3, m4, m5⟩, mf⟩ := HD65.out.cells
                    refine wpAny_ready (rs := [19]) (by kernel_rfl) (by simp) ?_
                    refine AllReady.cons rfl (fun K hK => ?_) AllReady.nil
                    go_simp
                    refine hK _ _ ?_
                    clear hK K m0 m1 m2 m3 m4 m5 mf
                    refine wpAny_done (by kernel_rfl) ?_ _
                    go_wp2_with fail
                    go_meet
                    exact ⟨_, _, _, _, rfl, Lib.hid (DsO.set6 HD65.out _ _ _)⟩
                · go_simp
                  go_at_call 40
                  refine (next_any HS.out hl HD62.out.rd HD62.out.b).mono ?_
                  rintro e w69 ⟨r2, rfl, hr2, hI5, hB5, hk5⟩
                  refine hK _ _ ?_
                  clear hK K
                  have HD69 := Lib.hid (HD62.out.keep hk5 hI5 hB5)
                  have HRC2 := Lib.hid ((hk5.2 _ (lt_of HRC.out) HNE.out (by simp)).trans HRC.out)
                  clear HRC
                  have HRC := HRC2
                  clear HRC2
                  clear hI5 hB5 hk5 HD62
                  refine wpAny_take (i := 10) (v := ?v10n70) rfl (by kernel_rfl) (by kernel_rfl) (by kernel_rfl) (fun _ _ _ h => h) (Or.inl ⟨by kernel_rfl, ?y10n70⟩) ?r10n70
                  case y10n70 => (intro w; go_simp; first | done | with_reducible rfl)
                  refine wpAny_take (i := 13) (v := ?v13n71) rfl (by kernel_rfl) (by kernel_rfl) (by kernel_rfl) (fun _ _ _ h => h) (Or.inl ⟨by kernel_rfl, ?y13n71⟩) ?r13n71
                  case y13n71 => (intro w; go_simp; first | done | with_reducible rfl)
                  refine wpAny_ready (rs := [4]) (by kernel_rfl) (by simp) ?_
                  refine AllReady.cons rfl (fun K hK => ?_) (AllReady.nil)
                  · have hq4 := (bcell HRC.out q).trans hkd
                    go_simp
                    refine hK _ _ ?_
                    clear hK K hq4
                    refine wpAny_take (i := 17) (v := ?v17n73) rfl (by kernel_rfl) (by kernel_rfl) (by kernel_rfl) (fun _ _ _ h => h) (Or.inl ⟨by kernel_rfl, ?y17n73⟩) ?r17n73
                    case y17n73 => (intro w; go_simp; first | done | with_reducible rfl)
                    obtain ⟨⟨m0, m1, m2, m3, m4, m5⟩, mf⟩ := HD69.out.cells
                    refine wpAny_ready (rs := [19]) (by kernel_rfl) (by simp) ?_
                    refine AllReady.cons rfl (fun K hK => ?_) AllReady.nil
                    go_simp
                    refine hK _ _ ?_
                    clear hK K m0 m1 m2 m3 m4 m5 mf
                    refine wpAny_done (by kernel_rfl) ?_ _
                    go_wp2_with fail
                    go_meet
                    exact ⟨_, _, _, _, rfl, Lib.hid (DsO.set6 HD69.out _ _ _)⟩
              · go_simp
                go_at_call 40
                refine (next_any HS.out hl HD61.out.rd HD61.out.b).mono ?_
                rintro e w74 ⟨r2, rfl, hr2, hI5, hB5, hk5⟩
                refine hK _ _ ?_
                clear hK K
                have HD74 := Lib.hid (HD61.out.keep hk5 hI5 hB5)
                clear hI5 hB5 hk5 HD61
                refine wpAny_take (i := 10) (v := ?v10n75) rfl (by kernel_rfl) (by kernel_rfl) (by kernel_rfl) (fun _ _ _ h => h) (Or.inl ⟨by kernel_rfl, ?y10n75⟩) ?r10n75
                case y10n75 => (intro w; go_simp; first | done | with_reducible rfl)
                refine wpAny_take (i := 13) (v := ?v13n76) rfl (by kernel_rfl) (by kernel_rfl) (by kernel_rfl) (fun _ _ _ h => h) (Or.inl ⟨by kernel_rfl, ?y13n76⟩) ?r13n76
                case y13n76 => (intro w; go_simp; first | done | with_reducible rfl)
                refine wpAny_ready (rs := [0]) (by kernel_rfl) (by simp) ?_
                refine AllReady.cons rfl (fun K hK => ?_) (AllReady.nil)
                · go_simp
                  refine hK _ _ ?_
                  clear hK K
                  obtain ⟨rb, hrb⟩ : ∃ x, w74.heap.size = x := ⟨_, rfl⟩
                  obtain ⟨w77, hw77⟩ : ∃ x, w74.alloc (.cells kinds 3) = x := ⟨_, rfl⟩
                  rw [hw77, hrb]
                  have HRC := Lib.hid (show w77.heap[rb]? = some (.cells kinds 3 (0, 0)) from by rw [← hw77, ← hrb]; exact alloc_new _ _)
                  have HNE := Lib.hid (show rb ≠ g from by have := HD74.out.rd.lt; omega)
                  have HD77 := HD74.out.alloc (.cells kinds 3)
                  rw [hw77] at HD77
                  have HD77 := Lib.hid HD77
                  clear hw77 hrb HD74
                  refine wpAny_take (i := 3) (v := ?v3n78) rfl (by kernel_rfl) (by kernel_rfl) (by kernel_rfl) (fun _ _ _ h => h) (Or.inl ⟨by kernel_rfl, ?y3n78⟩) ?r3n78
                  case y3n78 => (intro w; go_simp; first | done | with_reducible rfl)
                  refine wpAny_ready (rs := [4]) (by kernel_rfl) (by simp) ?_
                  refine AllReady.cons rfl (fun K hK => ?_) (AllReady.nil)
                  · have hq4 := (bcell HRC.out q).trans hkd
                    go_simp
                    refine hK _ _ ?_
                    clear hK K hq4
                    refine wpAny_take (i := 17) (v := ?v17n80) rfl (by kernel_rfl) (by kernel_rfl) (by kernel_rfl) (fun _ _ _ h => h) (Or.inl ⟨by kernel_rfl, ?y17n80⟩) ?r17n80
                    case y17n80 => (intro w; go_simp; first | done | with_reducible rfl)
                    obtain ⟨⟨m0, m1, m2, m3, m4, m5⟩, mf⟩ := HD77.out.cells
                    refine wpAny_ready (rs := [19]) (by kernel_rfl) (by simp) ?_
                    refine AllReady.cons rfl (fun K hK => ?_) AllReady.nil
                    go_simp
                    refine hK _ _ ?_
                    clear hK K m0 m1 m2 m3 m4 m5 mf
                    refine wpAny_done (by kernel_rfl) ?_ _
                    go_wp2_with fail
                    go_meet
                    exact ⟨_, _, _, _, rfl, Lib.hid (DsO.set6 HD77.out _ _ _)⟩
          case rest =>
            obtain ⟨bb, k0, k1, k2, rfl, HO⟩ := hcut
            clear HD2
            go_upto_if 62 with fail
            go_cut [] (fun wx => ∃ (p : So) (vd : Value), Hid (DsO w g bb s (.slice Ao j co) xs p vd wx))
            case first =>
              by_cases h4 : 4 < cc % 10
              · obtain ⟨⟨m0, m1, m2, m3, m4, m5⟩, mf⟩ := HO.out.cells
                go_upto_region 19 with fail
                have hO2 := (HO.out.set (p' := ⟨k0, 0, k2, 0, 0, []⟩) 1 (.int .i64 0) rfl ⟨by simp, by simp⟩ rfl).set (p' := ⟨k0, 0, 0, 0, 0, []⟩) 2 (.int .i64 0) rfl ⟨by simp, by simp⟩ rfl
                obtain ⟨wb, hwb⟩ : ∃ x, (World.setCell (World.setCell wc ⟨bb, 1, none⟩ (.int .i64 0)) ⟨bb, 2, none⟩ (.int .i64 0)) = x := ⟨_, rfl⟩
                rw [hwb] at hO2 ⊢
                have HO2 := Lib.hid hO2
                clear hO2 hwb HO m0 m1 m2 m3 m4 m5 mf
                go_cut [] (fun wx => ∃ a3 : Int, Hid (DsO w g bb s (.slice Ao j co) xs ⟨k0, 0, 0, a3, 0, []⟩ (.slice none 0 0) wx))
                case first =>
                  obtain ⟨k9, hk9, hk90, hk91⟩ : ∃ k9, k.tmod 9 = k9 ∧ 0 ≤ k9 ∧ k9 ≤ 8 := ⟨k.tmod 9, rfl, by rw [Int.tmod_eq_emod_of_nonneg hk.1]; omega, by rw [Int.tmod_eq_emod_of_nonneg hk.1]; omega⟩
                  have hkw : IntKind.i64.wrap (k9 + 1) = k9 + 1 := by rw [IntKind.wrap_i64]; omega
                  have hkz : (k9 + 1 = 0) = False := by simp; omega
                  have hkz2 : (k9 + 1 == 0) = false := by simp; omega
                  refine wp_region_any (by kernel_rfl) ?_
                  change wpAny _ _ _ _ _ _ _ (World.drew _)
                  obtain ⟨wd, hwd⟩ : ∃ x, wb.drew = x := ⟨_, rfl⟩
                  rw [hwd]
                  have HDa := HO2.out.drew
                  rw [hwd] at HDa
                  have HDa := Lib.hid HDa
                  clear hwd HO2
                  refine wpAny_take (i := 0) (v := ?v0n81) rfl (by kernel_rfl) (by kernel_rfl) (by kernel_rfl) (fun _ _ _ h => h) (Or.inl ⟨by kernel_rfl, ?y0n81⟩) ?r0n81
                  case y0n81 => (intro w; go_simp; first | done | with_reducible rfl)
                  refine wpAny_take (i := 2) (v := ?v2n82) rfl (by kernel_rfl) (by kernel_rfl) (by kernel_rfl) (fun _ _ _ h => h) (Or.inl ⟨by kernel_rfl, ?y2n82⟩) ?r2n82
                  case y2n82 => (intro w; go_simp; first | done | with_reducible rfl)
                  refine wpAny_take (i := 3) (v := ?v3n83) rfl (by kernel_rfl) (by kernel_rfl) (by kernel_rfl) (fun _ _ _ h => h) (Or.inl ⟨by kernel_rfl, ?y3n83⟩) ?r3n83
                  case y3n83 => (intro w; go_simp; first | done | with_reducible rfl)
                  refine wpAny_take (i := 4) (v := ?v4n84) rfl (by kernel_rfl) (by kernel_rfl) (by kernel_rfl) (fun _ _ _ h => h) (Or.inl ⟨by kernel_rfl, ?y4n84⟩) ?r4n84
                  case y4n84 => (intro w; go_simp; first | done | with_reducible rfl)
                  refine wpAny_take (i := 8) (v := ?v8n85) rfl (by kernel_rfl) (by kernel_rfl) (by kernel_rfl) (fun _ _ _ h => h) (Or.inl ⟨by kernel_rfl, ?y8n85⟩) ?r8n85
                  case y8n85 => (intro w; go_simp; first | done | with_reducible rfl)
                  refine wpAny_ready (rs := [1]) (by kernel_rfl) (by simp) ?_
                  refine AllReady.cons rfl (fun K hK => ?_) (AllReady.nil)
                  · go_simp
                    go_at_call 40
                    refine (next_any HS.out hl HDa.out.rd HDa.out.b).mono ?_
                    rintro e w86 ⟨r1, rfl, hr1, hI5, hB5, hk5⟩
                    refine hK _ _ ?_
                    clear hK K
                    have HD86 := Lib.hid (HDa.out.keep hk5 hI5 hB5)
                    clear hI5 hB5 hk5 HDa
                    refine wpAny_take (i := 5) (v := ?v5n87) rfl (by kernel_rfl) (by kernel_rfl) (by kernel_rfl) (fun _ _ _ h => h) (Or.inl ⟨by kernel_rfl, ?y5n87⟩) ?r5n87
                    case y5n87 => (intro w; go_simp; first | done | with_reducible rfl)
                    refine wpAny_take (i := 6) (v := ?v6n88) rfl (by kernel_rfl) (by kernel_rfl) (by kernel_rfl) (fun _ _ _ h => h) (Or.inl ⟨by kernel_rfl, ?y6n88⟩) ?r6n88
                    case y6n88 => (intro w; go_simp; first | done | with_reducible rfl)
                    refine wpAny_take (i := 7) (v := ?v7n89) rfl (by kernel_rfl) (by kernel_rfl) (by kernel_rfl) (fun _ _ _ h => h) (Or.inl ⟨by kernel_rfl, ?y7n89⟩) ?r7n89
                    case y7n89 => (intro w; go_simp; first | done | with_reducible rfl)
                    refine wpAny_ready (rs := [9]) (by kernel_rfl) (by simp) ?_
                    refine AllReady.cons rfl (fun K hK => ?_) (AllReady.nil)
                    · go_simp
                      go_at_call 40
                      refine (next_any HS.out hl HD86.out.rd HD86.out.b).mono ?_
                      rintro e w90 ⟨r9, rfl, hr9, hI5, hB5, hk5⟩
                      refine hK _ _ ?_
                      clear hK K
                      have HD90 := Lib.hid (HD86.out.keep hk5 hI5 hB5)
                      clear hI5 hB5 hk5 HD86
                      refine wpAny_take (i := 10) (v := ?v10n91) rfl (by kernel_rfl) (by kernel_rfl) (by kernel_rfl) (fun _ _ _ h => h) (Or.inl ⟨by kernel_rfl, ?y10n91⟩) ?r10n91
                      case y10n91 => (intro w; go_simp; first | done | with_reducible rfl)
                      refine wpAny_take (i := 11) (v := ?v11n92) rfl (by kernel_rfl) (by kernel_rfl) (by kernel_rfl) (fun _ _ _ h => h) (Or.inl ⟨by kernel_rfl, ?y11n92⟩) ?r11n92
                      case y11n92 => (intro w; go_simp; first | done | with_reducible rfl)
                      refine wpAny_take (i := 12) (v := ?v12n93) rfl (by kernel_rfl) (by kernel_rfl) (by kernel_rfl) (fun _ _ _ h => h) (Or.inl ⟨by kernel_rfl, ?y12n93⟩) ?r12n93
                      case y12n93 => (intro w; go_simp; first | done | with_reducible rfl)
                      refine wpAny_take (i := 13) (v := ?v13n94) rfl (by kernel_rfl) (by kernel_rfl) (by kernel_rfl) (fun _ _ _ h => h) (Or.inl ⟨by kernel_rfl, ?y13n94⟩) ?r13n94
                      case y13n94 => (intro w; go_simp; first | done | with_reducible rfl)
                      obtain ⟨⟨m0, m1, m2, m3, m4, m5⟩, mf⟩ := HD90.out.cells
                      refine wpAny_ready (rs := [14]) (by kernel_rfl) (by simp) ?_
                      refine AllReady.cons rfl (fun K hK => ?_) AllReady.nil
                      go_simp
                      refine hK _ _ ?_
                      clear hK K m0 m1 m2 m3 m4 m5 mf
                      refine wpAny_done (by kernel_rfl) ?_ _
                      go_wp2_with fail
                      go_meet
                      refine ⟨_, Lib.hid (HD90.out.set3 ?_)⟩
                      rw [IntKind.wrap_u64]
                      omega
                case rest =>
                  obtain ⟨a3, HO3⟩ := hcut
                  go_upto_if 84 with (go_at_call 40; refine (next_any HS.out hl HO3.out.rd HO3.out.b).mono ?_; rintro e w5 ⟨r5, rfl, hr5, hI, hB, hk'⟩; have HO4 := Lib.hid (HO3.out.keep hk' hI hB); obtain ⟨⟨m0, m1, m2, m3, m4, m5⟩, mf⟩ := HO4.out.cells; clear hI hB hk' HO3)
                  have hO5 := HO4.out.set (p' := ⟨k0, 0, 0, a3, r5 % 12, []⟩) 4 (.int .i64 (r5 % 12)) rfl HO4.out.fp rfl
                  obtain ⟨wf, hwf⟩ : ∃ x, World.setCell w5 ⟨bb, 4, none⟩ (.int .i64 (r5 % 12)) = x := ⟨_, rfl⟩
                  rw [hwf] at hO5 ⊢
                  have HO5 := Lib.hid hO5
                  clear hO5 hwf HO4 m0 m1 m2 m3 m4 m5 mf
                  go_cut [] (fun wx => ∃ a4 : Int, (0 ≤ a4 ∧ a4 ≤ 3300) ∧ Hid (DsO w g bb s (.slice Ao j co) xs ⟨k0, 0, 0, a3, a4, []⟩ (.slice none 0 0) wx))
                  case first =>
                    by_cases h2 : 200 ≤ cc
                    · obtain ⟨⟨m0, m1, m2, m3, m4, m5⟩, mf⟩ := HO5.out.cells
                      go_wp2_with fail
                      go_meet
                      exact ⟨_, by omega, Lib.hid (HO5.out.set (p' := ⟨k0, 0, 0, a3, r5 % 12 * 300, []⟩) 4 _ rfl HO5.out.fp rfl)⟩
                    · go_wp2_with fail
                      go_meet
                      exact ⟨_, by omega, HO5⟩
                  case rest =>
                    obtain ⟨a4, ⟨ha40, ha41⟩, HO6⟩ := hcut
                    clear HO5
                    by_cases h6 : 6 < cc % 10
                    · obtain ⟨⟨m0, m1, m2, m3, m4, m5⟩, mf⟩ := HO6.out.cells
                      go_wp2_with (go_at_call 41; refine (bytes_any HS.out hl (a4 % 40) (by omega) HO6.out.rd HO6.out.b).mono ?_; rintro e w7 ⟨v7, ds, rfl, hRd, hI, hB, hk'⟩; obtain ⟨A7, c7, rfl⟩ := Kd.R_slice hRd; have HO7 := Lib.hid (HO6.out.data hk' hRd hI hB); obtain ⟨⟨q0, q1, q2, q3, q4, q5⟩, qf⟩ := (HO6.out.keep hk' hI hB).cells; clear hRd hI hB hk')
                      go_meet
                      exact ⟨_, _, Lib.hid (HO7.out.set (p' := ⟨k0, 0, 0, a3, 0, ds⟩) 4 (.int .i64 0) rfl HO7.out.fp rfl)⟩
                    · go_wp2_with fail
                      go_meet
                      exact ⟨_, _, HO6⟩
              · go_wp2_with fail
                go_meet
                exact ⟨_, _, HO⟩
            case rest =>
              obtain ⟨p, vd, HP⟩ := hcut
              clear HO
              go_upto_if 100 with fail
              go_cut [] (fun wx => ∃ p : So, Hid (DsO w g bb s (.slice Ao j co) xs p vd wx))
              case first =>
                by_cases h5 : cc = 255
                · have h6 : (cc == 255) = true := by simpa using h5
                  clear h5
                  obtain ⟨⟨m0, m1, m2, m3, m4, m5⟩, mf⟩ := HP.out.cells
                  go_wp2_with fail
                  go_meet
                  exact ⟨_, Lib.hid (HP.out.set (p' := ⟨6, p.f1, p.f2, p.f3, p.f4, p.f5⟩) 0 (.int .i64 6) rfl HP.out.fp rfl)⟩
                · have h6 : (cc == 255) = false := by simpa using h5
                  go_wp2_with fail
                  go_meet
                  exact ⟨_, HP⟩
              case rest =>
                obtain ⟨p2, HQ⟩ := hcut
                clear HP
                obtain ⟨⟨m0, m1, m2, m3, m4, m5⟩, mf⟩ := HQ.out.cells
                have HX := Lib.hid hxs
                clear hxs
                go_wp2_with (at_builtin; refine Kd.S_append k52 (w0 := w) w.heap.size rfl _ _ 43 52 (.agg #[.int .i64 0, .int .i64 0, .int .i64 0, .int .u64 0, .int .i64 0, .slice none 0 0]) 64 rfl Try.underlying43 infoO rfl (by decide) (by omega) (.slice Ao j co) xs p2 [.int .i64 p2.f0, .int .i64 p2.f1, .int .i64 p2.f2, .int .u64 p2.f3, .int .i64 p2.f4, vd] (fun k => k ≠ g) (fun k => some k = vd.ownBlock ∧ k ≠ g ∧ k ≠ bb) rfl rfl HQ.out.okp.2.1 HQ.out.okp.1 HQ.out.okp.2.2.2 HQ.out.okp.2.2.1 HQ.out.b HQ.out.b.size (by rw [HX.out]; omega) ?_; intro v1 w8 hS hB hg8 hat; have HN := Lib.hid (HQ.out.app hS hB hg8); clear hS hB hg8 hat)
                go_roundw
                case rel => exact ⟨j + 1, by go_num, by omega, xs ++ [p2], by simp [HX.out], HN⟩
                case measure => simp [intOf]; omega
        · obtain rfl : n = j := by omega
          have hxn : xs.length ≤ 401 := by omega
          have HX := Lib.hid hxs
          clear hxs
          have hfin : ∀ (ys : List So) (A9 : Option Addr) (c9 : Nat) (W : World), ys.length ≤ 401 → Hid (DsI w g s (.slice A9 ys.length c9) ys W) → Hid (Drew w (.returned (.tuple #[.int .i64 pages, .int .i64 budget, .slice A9 ys.length c9])) W) := fun ys A9 c9 W hys HE => Lib.hid ⟨pages, budget, ys, _, rfl, ⟨hp0, hp1⟩, ⟨hb0, hb1⟩, hys, Kd.S_mono HE.out.o (fun _ _ => trivial), HE.out.f, HE.out.b⟩
          have HFIN := Lib.hid hfin
          clear hfin
          by_cases h8 : k = 248
          · have h9 : (k == 248) = true := by simpa using h8
            clear h8
            go_wp2_with fail
            go_loopw [9] (fun vo W => ∃ xs : List So, xs.length ≤ 401 ∧ Hid (DsI w g s vo xs W)) (fun vo _ => 402 - vlen vo)
            case atStart => exact ⟨xs, hxn, HD⟩
            case round =>
              clear HD HX hxn
              obtain ⟨ys, hys, HE⟩ := hrel
              obtain ⟨Ay, cy, hvy⟩ := Kd.S_slice HE.out.o
              obtain ⟨m, hm⟩ : ∃ m, ys.length = m := ⟨_, rfl⟩
              rw [hm] at hvy hys
              subst hvy
              have HM := Lib.hid hm
              clear hm
              by_cases hlm : (m : Int) < 400 + (n : Int) % 2
              · go_wp2_with (at_builtin; refine Kd.S_append k52 (w0 := w) w.heap.size rfl _ _ 43 52 (.agg #[.int .i64 0, .int .i64 0, .int .i64 0, .int .u64 0, .int .i64 0, .slice none 0 0]) 64 rfl Try.underlying43 infoO rfl (by decide) (by omega) (.slice Ay m cy) ys ⟨4, 0, 0, 0, 0, []⟩ [.int .i64 4, .int .i64 0, .int .i64 0, .int .u64 0, .int .i64 0, .slice none 0 0] (fun k => k ≠ g) (fun _ => False) rfl rfl (lit_M _ _ _) (fun _ e => e.elim) (fun k hk => by have := HE.out.rd.lt; omega) (Kd.S_mono HE.out.o (fun k hk => ⟨hk, fun e => e⟩)) HE.out.b HE.out.b.size (by rw [HM.out]; omega) ?_; intro v1 w8 hS hB hg8 hat; obtain ⟨A1, c1, hv1⟩ := Kd.S_slice hS; rw [show (ys ++ [(⟨4, 0, 0, 0, 0, []⟩ : So)]).length = m + 1 by simp [HM.out]] at hv1; subst hv1; have HN := Lib.hid (HE.out.app ⟨by simp, by simp⟩ hS hB hg8); clear hS hB hg8 hat)
                go_roundw
                case rel => exact ⟨_, by simp [HM.out]; omega, HN⟩
                case measure => simp [vlen]; omega
              · go_wp2_with fail
                have hy2 := HFIN.out ys Ay cy _ (by rw [HM.out]; exact hys) (by rw [HM.out]; exact HE)
                rw [HM.out] at hy2
                refine bodyPost_ret (v := .tuple #[.int .i64 pages, .int .i64 budget, .slice Ay m cy]) (by simp [results, Try.results22, go_sem]) rfl hy2.out
          · have h9 : (k == 248) = false := by simpa using h8
            go_wp2_with fail
            have hy2 := HFIN.out xs Ao co _ hxn (by rw [HX.out]; exact HD)
            rw [HX.out] at hy2
            refine bodyPost_ret (v := .tuple #[.int .i64 pages, .int .i64 budget, .slice Ao n co]) (by simp [results, Try.results22, go_sem]) rfl hy2.out
end Go.Proofs.Ytklobepkihdbkaa.Dsp
