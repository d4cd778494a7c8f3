/- The helpers of the law on RunSpace: what their plain functions come to. -/
import Derived.Test.YtklobepkihdbkaaHlp
import Derived.Test.YtklobepkihdbkaaEv
namespace Go.Proofs.Ytklobepkihdbkaa.RsP
open Go.RowKit Go.Proofs.YtklobepkihdbkaaW.PrintWords Go.Proofs.Ytklobepkihdbkaa.PFnExactRunSpace Go.Proofs.Ytklobepkihdbkaa.Ev
set_option linter.unusedVariables false
set_option linter.unusedSimpArgs false
/-! ### marks -/
/-- The first j of the row marked by g, from k0 on. -/
def st (g : Int → Int) (l : List Int) (k0 : Int) (j : Nat) : List Int := (List.range l.length).map fun i => if i < j then g (k0 + i) else l.getD i 0
theorem st_len (g : Int → Int) (l : List Int) (k0 : Int) (j : Nat) : (st g l k0 j).length = l.length := by simp [st]
theorem st_zero (g : Int → Int) (l : List Int) (k0 : Int) : st g l k0 0 = l := by
  apply List.ext_getElem
  · simp [st]
  · intro i h1 h2
    simp [st, List.getD_eq_getElem?_getD, h2]
theorem st_succ (g : Int → Int) (l : List Int) (k0 : Int) (j : Nat) : (st g l k0 j).set j (g (k0 + j)) = st g l k0 (j + 1) := by
  apply List.ext_getElem
  · simp [st]
  · intro i h1 h2
    rw [List.getElem_set]
    by_cases e : j = i
    · subst e
      simp [st]
    · rw [if_neg e]
      simp only [st, List.getElem_map, List.getElem_range]
      by_cases e2 : i < j
      · rw [if_pos e2, if_pos (by omega)]
      · rw [if_neg e2, if_neg (by omega)]
theorem st_at (g : Int → Int) (l : List Int) (k0 : Int) (i : Nat) (h : i < l.length) : rd (st g l k0 l.length) i = g (k0 + i) := by
  unfold rd
  rw [Int.toNat_natCast, List.getD_eq_getElem?_getD, List.getElem?_eq_getElem (by rw [st_len]; exact h)]
  simp [st, h]
def gB (x : Int) : Int := x % 256
def gI (x : Int) : Int := x
theorem markB_l0 (l : List Int) (k0 : Int) (h0 : 0 ≤ k0) (h1 : k0 + l.length ≤ 4611686018427387903) : ∀ d j : Nat, j + d = l.length → Ev (fun K => laws_markByteS.l0 K (st gB l k0 j) (k0 + j) j) (k0 + l.length, st gB l k0 l.length)
  | 0, j, h => Ev.step (k := Ev.now _) fun K => by
      obtain rfl : j = l.length := by omega
      rw [laws_markByteS.l0, st_len, if_neg (by omega)]
  | d + 1, j, h => Ev.step (k := markB_l0 l k0 h0 h1 d (j + 1) (by omega)) fun K => by
      rw [laws_markByteS.l0, st_len, if_pos (by omega), if_pos (by omega), Int.toNat_natCast, show (k0 + (j : Int)) % 256 = gB (k0 + j) from rfl, st_succ, w64s (by omega), w64 (by omega) (by omega), show k0 + (j : Int) + 1 = k0 + ((j + 1 : Nat) : Int) by omega]
theorem markB_f (l : List Int) (k0 : Int) (h0 : 0 ≤ k0) (h1 : k0 + l.length ≤ 4611686018427387903) : Ev (fun K => laws_markByteS.f K l k0) (k0 + l.length, st gB l k0 l.length) := by
  have h := markB_l0 l k0 h0 h1 l.length 0 (by omega)
  rw [st_zero, Int.natCast_zero, Int.add_zero] at h
  exact h
theorem markI_l0 (l : List Int) (k0 : Int) (h0 : 0 ≤ k0) (h1 : k0 + l.length ≤ 4611686018427387903) : ∀ d j : Nat, j + d = l.length → Ev (fun K => laws_markIntS.l0 K (st gI l k0 j) (k0 + j) j) (k0 + l.length, st gI l k0 l.length)
  | 0, j, h => Ev.step (k := Ev.now _) fun K => by
      obtain rfl : j = l.length := by omega
      rw [laws_markIntS.l0, st_len, if_neg (by omega)]
  | d + 1, j, h => Ev.step (k := markI_l0 l k0 h0 h1 d (j + 1) (by omega)) fun K => by
      have hs := st_succ gI l k0 j
      unfold gI at hs
      rw [laws_markIntS.l0, st_len, if_pos (by omega), if_pos (by omega), Int.toNat_natCast]
      unfold gI
      rw [hs, w64s (by omega), w64 (by omega) (by omega), show k0 + (j : Int) + 1 = k0 + ((j + 1 : Nat) : Int) by omega]
theorem markI_f (l : List Int) (k0 : Int) (h0 : 0 ≤ k0) (h1 : k0 + l.length ≤ 4611686018427387903) : Ev (fun K => laws_markIntS.f K l k0) (k0 + l.length, st gI l k0 l.length) := by
  have h := markI_l0 l k0 h0 h1 l.length 0 (by omega)
  rw [st_zero, Int.natCast_zero, Int.add_zero] at h
  exact h
/-! ### marks held -/
theorem heldB_l0 (l : List Int) (k0 : Int) (h0 : 0 ≤ k0) (h1 : k0 + l.length ≤ 4611686018427387903) (hl : ∀ i : Nat, i < l.length → rd l i = gB (k0 + i)) : ∀ d j : Nat, j + d = l.length → Ev (fun K => laws_heldByteS.l0 K l (k0 + j) j) (k0 + l.length)
  | 0, j, h => Ev.step (k := Ev.now _) fun K => by
      obtain rfl : j = l.length := by omega
      rw [laws_heldByteS.l0, if_neg (by omega)]
  | d + 1, j, h => Ev.step (k := heldB_l0 l k0 h0 h1 hl d (j + 1) (by omega)) fun K => by
      rw [laws_heldByteS.l0, if_pos (by omega), if_pos (by omega), hl j (by omega), if_pos (by rfl), w64s (by omega), w64 (by omega) (by omega), show k0 + (j : Int) + 1 = k0 + ((j + 1 : Nat) : Int) by omega]
theorem heldB_f (l : List Int) (k0 : Int) (h0 : 0 ≤ k0) (h1 : k0 + l.length ≤ 4611686018427387903) : Ev (fun K => laws_heldByteS.f K (st gB l k0 l.length) k0) (k0 + l.length) := by
  have h := heldB_l0 (st gB l k0 l.length) k0 h0 (by rw [st_len]; exact h1) (fun i hi => st_at _ _ _ _ (by rwa [st_len] at hi)) l.length 0 (by rw [st_len]; omega)
  rw [Int.natCast_zero, Int.add_zero, st_len] at h
  exact h
theorem heldI_l0 (l : List Int) (k0 : Int) (h0 : 0 ≤ k0) (h1 : k0 + l.length ≤ 4611686018427387903) (hl : ∀ i : Nat, i < l.length → rd l i = k0 + i) : ∀ d j : Nat, j + d = l.length → Ev (fun K => laws_heldIntS.l0 K l (k0 + j) j) (k0 + l.length)
  | 0, j, h => Ev.step (k := Ev.now _) fun K => by
      obtain rfl : j = l.length := by omega
      rw [laws_heldIntS.l0, if_neg (by omega)]
  | d + 1, j, h => Ev.step (k := heldI_l0 l k0 h0 h1 hl d (j + 1) (by omega)) fun K => by
      rw [laws_heldIntS.l0, if_pos (by omega), if_pos (by omega), hl j (by omega), if_pos (by rfl), w64s (by omega), w64 (by omega) (by omega), show k0 + (j : Int) + 1 = k0 + ((j + 1 : Nat) : Int) by omega]
theorem heldI_f (l : List Int) (k0 : Int) (h0 : 0 ≤ k0) (h1 : k0 + l.length ≤ 4611686018427387903) : Ev (fun K => laws_heldIntS.f K (st gI l k0 l.length) k0) (k0 + l.length) := by
  have h := heldI_l0 (st gI l k0 l.length) k0 h0 (by rw [st_len]; exact h1) (fun i hi => st_at _ _ _ _ (by rwa [st_len] at hi)) l.length 0 (by rw [st_len]; omega)
  rw [Int.natCast_zero, Int.add_zero, st_len] at h
  exact h
/-! ### equal to itself -/
theorem eqB_l0 (l : List Int) (hn : l.length < 4611686018427387904) : ∀ d j : Nat, j + d = l.length → Ev (fun K => laws_eqByteS.l0 K l l j) true
  | 0, j, h => Ev.step (k := Ev.now _) fun K => by
      obtain rfl : j = l.length := by omega
      rw [laws_eqByteS.l0, if_neg (by omega)]
  | d + 1, j, h => Ev.step (k := eqB_l0 l hn d (j + 1) (by omega)) fun K => by
      rw [laws_eqByteS.l0, if_pos (by omega), if_pos (by omega), if_pos (by omega), if_pos rfl, w64s (by omega)]
theorem eqB_f (l : List Int) (hn : l.length < 4611686018427387904) : Ev (fun K => laws_eqByteS.f K l l) true := Ev.congr (k := eqB_l0 l hn l.length 0 (by omega)) fun K => by rw [laws_eqByteS.f, if_pos rfl]; rfl
theorem eqI_l0 (l : List Int) (hn : l.length < 4611686018427387904) : ∀ d j : Nat, j + d = l.length → Ev (fun K => laws_eqIntS.l0 K l l j) true
  | 0, j, h => Ev.step (k := Ev.now _) fun K => by
      obtain rfl : j = l.length := by omega
      rw [laws_eqIntS.l0, if_neg (by omega)]
  | d + 1, j, h => Ev.step (k := eqI_l0 l hn d (j + 1) (by omega)) fun K => by
      rw [laws_eqIntS.l0, if_pos (by omega), if_pos (by omega), if_pos (by omega), if_pos rfl, w64s (by omega)]
theorem eqI_f (l : List Int) (hn : l.length < 4611686018427387904) : Ev (fun K => laws_eqIntS.f K l l) true := Ev.congr (k := eqI_l0 l hn l.length 0 (by omega)) fun K => by rw [laws_eqIntS.f, if_pos rfl]; rfl
/-! ### copies -/
def cp (l : List Int) (j : Nat) : List Int := (List.range l.length).map fun i => if i < j then l.getD i 0 else 0
theorem cp_len (l : List Int) (j : Nat) : (cp l j).length = l.length := by simp [cp]
theorem cp_zero (l : List Int) : cp l 0 = List.replicate l.length 0 := by
  apply List.ext_getElem
  · simp [cp]
  · intro i h1 h2; simp [cp]
theorem cp_all (l : List Int) : cp l l.length = l := by
  apply List.ext_getElem
  · simp [cp]
  · intro i h1 h2; simp [cp, List.getD_eq_getElem?_getD, h2]
theorem cp_succ (l : List Int) (j : Nat) : (cp l j).set j (l.getD j 0) = cp l (j + 1) := by
  apply List.ext_getElem
  · simp [cp]
  · intro i h1 h2
    rw [List.getElem_set]
    by_cases e : j = i
    · subst e
      simp [cp]
    · rw [if_neg e]
      simp only [cp, List.getElem_map, List.getElem_range]
      by_cases e2 : i < j
      · rw [if_pos e2, if_pos (by omega)]
      · rw [if_neg e2, if_neg (by omega)]
theorem toB_l0 (l : List Int) (hn : l.length < 4611686018427387904) : ∀ d j : Nat, j + d = l.length → Ev (fun K => laws_toByteS.l0 K l (cp l j) j) l
  | 0, j, h => Ev.step (k := Ev.now _) fun K => by
      obtain rfl : j = l.length := by omega
      rw [laws_toByteS.l0, if_neg (by omega), cp_all]
  | d + 1, j, h => Ev.step (k := toB_l0 l hn d (j + 1) (by omega)) fun K => by
      rw [laws_toByteS.l0, if_pos (by omega), if_pos (by omega), cp_len, if_pos (by omega), Int.toNat_natCast, w64s (by omega)]
      unfold rd
      rw [Int.toNat_natCast, cp_succ]
theorem toB_f (l : List Int) (hn : l.length ≤ 281474976710656) : Ev (fun K => laws_toByteS.f K l) l := Ev.congr (k := toB_l0 l (by omega) l.length 0 (by omega)) fun K => by
  rw [laws_toByteS.f, if_pos (by omega), if_pos (by omega), Int.toNat_natCast, cp_zero]
  rfl
/-! ### answers -/
abbrev An := S54
abbrev So := S52
abbrev Lo := S100
def zA : An := z54
def zO : So := z52
def zL : Lo := z100
theorem rdA (l : List An) (i : Nat) : rd_T54 l i = l.getD i zA := by unfold rd_T54 zA; rw [Int.toNat_natCast]
theorem rdO (l : List So) (i : Nat) : rd_T52 l i = l.getD i zO := by unfold rd_T52 zO; rw [Int.toNat_natCast]
theorem rdL (l : List Lo) (i : Nat) : rd_T100 l i = l.getD i zL := by unfold rd_T100 zL; rw [Int.toNat_natCast]
theorem getD_mem {α : Type} {l : List α} {i : Nat} {z : α} (h : i < l.length) : l.getD i z ∈ l := by
  rw [List.getD_eq_getElem?_getD, List.getElem?_eq_getElem h]
  exact List.getElem_mem h
theorem eqA_f (x : An) (hn : x.f1.length < 4611686018427387904) : Ev (fun K => laws_eqSpaceAnswer.f K x.f0 x.f1 x.f0 x.f1) true := Ev.congr (k := Ev.bind (eqB_f x.f1 hn) (f := fun _ t => if t = true then some true else some false) (by simp only [if_true]; exact Ev.now _)) fun K => by
  rw [laws_eqSpaceAnswer.f, if_pos rfl]
theorem eqAS_l0 (l : List An) (hn : l.length < 4611686018427387904) (hb : ∀ x ∈ l, x.f1.length < 4611686018427387904) : ∀ d j : Nat, j + d = l.length → Ev (fun K => laws_eqSpaceAnswerS.l0 K l l j) true
  | 0, j, h => Ev.step (k := Ev.now _) fun K => by
      obtain rfl : j = l.length := by omega
      rw [laws_eqSpaceAnswerS.l0, if_neg (by omega)]
  | d + 1, j, h => Ev.step (k := Ev.bind (eqA_f (l.getD j zA) (hb _ (getD_mem (by omega)))) (f := fun K t => if t = true then laws_eqSpaceAnswerS.l0 K l l (j + 1 : Nat) else some false) (by simp only [if_true]; exact eqAS_l0 l hn hb d (j + 1) (by omega))) fun K => by
      rw [laws_eqSpaceAnswerS.l0, if_pos (by omega), if_pos (by omega), if_pos (by omega), w64s (by omega), rdA]
theorem eqAS_f (l : List An) (hn : l.length < 4611686018427387904) (hb : ∀ x ∈ l, x.f1.length < 4611686018427387904) : Ev (fun K => laws_eqSpaceAnswerS.f K l l) true := Ev.congr (k := eqAS_l0 l hn hb l.length 0 (by omega)) fun K => by rw [laws_eqSpaceAnswerS.f, if_pos rfl]; rfl
theorem eqR_f (ok : Bool) (l : List An) (cm : Int) (op : List Int) (hn : l.length < 4611686018427387904) (hb : ∀ x ∈ l, x.f1.length < 4611686018427387904) (ho : op.length < 4611686018427387904) : Ev (fun K => laws_eqSpaceReport.f K ok l cm op ok l cm op) true :=
  Ev.congr (k := Ev.bind (eqAS_f l hn hb) (f := fun K t => if t = true then (if cm = cm then ((laws_eqIntS.f K op op).bind fun t311 => (if t311 = true then (some true) else (some false))) else (some false)) else (some false)) (by
    simp only [if_true]
    exact Ev.bind (eqI_f op ho) (f := fun _ t => if t = true then some true else some false) (by simp only [if_true]; exact Ev.now _))) fun K => by
  rw [laws_eqSpaceReport.f, if_neg (by simp)]
theorem eqO_f (x : So) (hn : x.f5.length < 4611686018427387904) : Ev (fun K => laws_eqSpaceOp.f K x.f0 x.f1 x.f2 x.f3 x.f4 x.f5 x.f0 x.f1 x.f2 x.f3 x.f4 x.f5) true := Ev.congr (k := Ev.bind (eqB_f x.f5 hn) (f := fun _ t => if t = true then some true else some false) (by simp only [if_true]; exact Ev.now _)) fun K => by
  rw [laws_eqSpaceOp.f, if_pos rfl, if_pos rfl, if_pos rfl, if_pos rfl, if_pos rfl]
theorem eqOS_l0 (l : List So) (hn : l.length < 4611686018427387904) (hb : ∀ x ∈ l, x.f5.length < 4611686018427387904) : ∀ d j : Nat, j + d = l.length → Ev (fun K => laws_eqSpaceOpS.l0 K l l j) true
  | 0, j, h => Ev.step (k := Ev.now _) fun K => by
      obtain rfl : j = l.length := by omega
      rw [laws_eqSpaceOpS.l0, if_neg (by omega)]
  | d + 1, j, h => Ev.step (k := Ev.bind (eqO_f (l.getD j zO) (hb _ (getD_mem (by omega)))) (f := fun K t => if t = true then laws_eqSpaceOpS.l0 K l l (j + 1 : Nat) else some false) (by simp only [if_true]; exact eqOS_l0 l hn hb d (j + 1) (by omega))) fun K => by
      rw [laws_eqSpaceOpS.l0, if_pos (by omega), if_pos (by omega), if_pos (by omega), w64s (by omega), rdO]
theorem eqOS_f (l : List So) (hn : l.length < 4611686018427387904) (hb : ∀ x ∈ l, x.f5.length < 4611686018427387904) : Ev (fun K => laws_eqSpaceOpS.f K l l) true := Ev.congr (k := eqOS_l0 l hn hb l.length 0 (by omega)) fun K => by rw [laws_eqSpaceOpS.f, if_pos rfl]; rfl
/-! ### the marks of answers -/
/-- What is behind the first i answers' marks. -/
def kk (l : List An) (k0 : Int) : Nat → Int
  | 0 => k0
  | i + 1 => kk l k0 i + 1 + ((l.getD i zA).f1.length : Int)
def mkA (x : An) (k : Int) : An := ⟨k, st gB x.f1 (k + 1) x.f1.length⟩
def stA (l : List An) (k0 : Int) (j : Nat) : List An := (List.range l.length).map fun i => if i < j then mkA (l.getD i zA) (kk l k0 i) else l.getD i zA
theorem stA_len (l : List An) (k0 : Int) (j : Nat) : (stA l k0 j).length = l.length := by simp [stA]
theorem stA_zero (l : List An) (k0 : Int) : stA l k0 0 = l := by
  apply List.ext_getElem
  · simp [stA]
  · intro i h1 h2
    simp [stA, List.getD_eq_getElem?_getD, h2]
theorem stA_succ (l : List An) (k0 : Int) (j : Nat) : (stA l k0 j).set j (mkA (l.getD j zA) (kk l k0 j)) = stA l k0 (j + 1) := by
  apply List.ext_getElem
  · simp [stA]
  · intro i h1 h2
    rw [List.getElem_set]
    by_cases e : j = i
    · subst e
      simp [stA]
    · rw [if_neg e]
      simp only [stA, List.getElem_map, List.getElem_range]
      by_cases e2 : i < j
      · rw [if_pos e2, if_pos (by omega)]
      · rw [if_neg e2, if_neg (by omega)]
theorem stA_at (l : List An) (k0 : Int) (i j : Nat) (h : i < l.length) : (stA l k0 j).getD i zA = if i < j then mkA (l.getD i zA) (kk l k0 i) else l.getD i zA := by
  rw [List.getD_eq_getElem?_getD, List.getElem?_eq_getElem (by rw [stA_len]; exact h)]
  simp [stA]
theorem kk_le (l : List An) (k0 : Int) (B : Int) (hb : ∀ x ∈ l, (x.f1.length : Int) ≤ B) (hB : 0 ≤ B) : ∀ i : Nat, i ≤ l.length → k0 + i ≤ kk l k0 i ∧ kk l k0 i ≤ k0 + i * (B + 1)
  | 0, _ => by simp [kk]
  | i + 1, h => by
    have h1 := kk_le l k0 B hb hB i (by omega)
    have h2 := hb _ (getD_mem (z := zA) (show i < l.length by omega))
    have h3 : ((i + 1 : Nat) : Int) * (B + 1) = i * (B + 1) + (B + 1) := by rw [Int.natCast_add, Int.natCast_one, Int.add_mul, Int.one_mul]
    rw [kk, h3]
    omega
theorem heldA_l0 (l : List An) (k0 : Int) (h0 : 0 ≤ k0) (hn : l.length ≤ 4096) (hk0 : k0 ≤ 4096) (hb : ∀ x ∈ l, (x.f1.length : Int) ≤ 1048576) : ∀ d j : Nat, j + d = l.length → Ev (fun K => laws_heldSpaceAnswerS.l0 K (stA l k0 l.length) (kk l k0 j) j) (kk l k0 l.length)
  | 0, j, h => Ev.step (k := Ev.now _) fun K => by
      obtain rfl : j = l.length := by omega
      rw [laws_heldSpaceAnswerS.l0, stA_len, if_neg (by omega)]
  | d + 1, j, h => by
      have hx := hb _ (getD_mem (z := zA) (show j < l.length by omega))
      have hle := kk_le l k0 1048576 hb (by omega) j (by omega)
      have hH := heldB_f (l.getD j zA).f1 (kk l k0 j + 1) (by omega) (by omega)
      refine Ev.step (k := Ev.bind hH (f := fun K t => if t < 0 then some (-1) else laws_heldSpaceAnswerS.l0 K (stA l k0 l.length) t (j + 1 : Nat)) ?k1) fun K => ?k2
      case k1 =>
        have := heldA_l0 l k0 h0 hn hk0 hb d (j + 1) (by omega)
        rw [kk] at this
        refine Ev.congr (k := this) fun K => ?_
        rw [if_neg (by omega)]
      case k2 =>
        have e0 : (stA l k0 l.length).getD j zA = mkA (l.getD j zA) (kk l k0 j) := by rw [stA_at _ _ _ _ (by omega), if_pos (by omega)]
        rw [laws_heldSpaceAnswerS.l0, stA_len, if_pos (by omega), if_pos (by omega), rdA, e0, if_pos (show (mkA (l.getD j zA) (kk l k0 j)).f0 = kk l k0 j from rfl), w64s (by omega), w64 (by omega) (by omega)]
        rfl
theorem heldA_f (l : List An) (k0 : Int) (h0 : 0 ≤ k0) (hn : l.length ≤ 4096) (hk0 : k0 ≤ 4096) (hb : ∀ x ∈ l, (x.f1.length : Int) ≤ 1048576) : Ev (fun K => laws_heldSpaceAnswerS.f K (stA l k0 l.length) k0) (kk l k0 l.length) := heldA_l0 l k0 h0 hn hk0 hb l.length 0 (by omega)
theorem heldR_f (ok : Bool) (l : List An) (cm : Int) (op : List Int) (hn : l.length ≤ 4096) (ho : op.length ≤ 4096) (hb : ∀ x ∈ l, (x.f1.length : Int) ≤ 1048576) :
    Ev (fun K => laws_heldSpaceReport.f K ok (stA l 1 l.length) cm (st gI op (kk l 1 l.length) op.length) 1) (kk l 1 l.length + op.length) := by
  have hle := kk_le l 1 1048576 hb (by omega) l.length (Nat.le_refl _)
  have h2 := heldI_f op (kk l 1 l.length) (by omega) (by omega)
  refine Ev.congr (k := Ev.bind (heldA_f l 1 (by omega) hn (by omega) hb) (f := fun K t => if t < 0 then some (-1) else ((laws_heldIntS.f K (st gI op (kk l 1 l.length) op.length) t).bind fun t328 => (if t328 < 0 then (some (-1)) else (some t328)))) ?k1) fun K => ?k2
  case k1 =>
    refine Ev.congr (k := Ev.bind h2 (f := fun _ t => if t < 0 then some (-1) else some t) (Ev.congr (k := Ev.now _) fun K => by rw [if_neg (by omega)])) fun K => ?_
    rw [if_neg (by omega)]
  case k2 => rw [laws_heldSpaceReport.f]
/-! ### operations copied -/
def conv (x : Lo) : So := ⟨x.f0, x.f1, x.f2, x.f3, x.f4, x.f5⟩
def cpO (l : List Lo) (j : Nat) : List So := (List.range l.length).map fun i => if i < j then conv (l.getD i zL) else zO
theorem cpO_len (l : List Lo) (j : Nat) : (cpO l j).length = l.length := by simp [cpO]
theorem cpO_zero (l : List Lo) : cpO l 0 = List.replicate l.length zO := by
  apply List.ext_getElem
  · simp [cpO]
  · intro i h1 h2; simp [cpO]
theorem cpO_all (l : List Lo) : cpO l l.length = l.map conv := by
  apply List.ext_getElem
  · simp [cpO]
  · intro i h1 h2
    have : i < l.length := by simpa [cpO] using h1
    simp [cpO, List.getD_eq_getElem?_getD, this]
theorem cpO_succ (l : List Lo) (j : Nat) : (cpO l j).set j (conv (l.getD j zL)) = cpO l (j + 1) := by
  apply List.ext_getElem
  · simp [cpO]
  · intro i h1 h2
    rw [List.getElem_set]
    by_cases e : j = i
    · subst e
      simp [cpO]
    · rw [if_neg e]
      simp only [cpO, List.getElem_map, List.getElem_range]
      by_cases e2 : i < j
      · rw [if_pos e2, if_pos (by omega)]
      · rw [if_neg e2, if_neg (by omega)]
theorem toO_f (x : Lo) (hn : x.f5.length ≤ 281474976710656) : Ev (fun K => laws_toSpaceOp.f K x.f0 x.f1 x.f2 x.f3 x.f4 x.f5) (x.f0, x.f1, x.f2, x.f3, x.f4, x.f5) :=
  Ev.congr (k := Ev.bind (toB_f x.f5 hn) (f := fun _ t => some (x.f0, x.f1, x.f2, x.f3, x.f4, t)) (Ev.now _)) fun K => by rw [laws_toSpaceOp.f]
theorem toOS_l0 (l : List Lo) (hn : l.length ≤ 4398046511104) (hb : ∀ x ∈ l, x.f5.length ≤ 281474976710656) : ∀ d j : Nat, j + d = l.length → Ev (fun K => laws_toSpaceOpS.l0 K l (cpO l j) j) (l.map conv)
  | 0, j, h => Ev.step (k := Ev.now _) fun K => by
      obtain rfl : j = l.length := by omega
      rw [laws_toSpaceOpS.l0, if_neg (by omega), cpO_all]
  | d + 1, j, h => by
      refine Ev.step (k := Ev.bind (toO_f (l.getD j zL) (hb _ (getD_mem (by omega)))) (f := fun K t => laws_toSpaceOpS.l0 K l ((cpO l j).set j ⟨t.1, t.2.1, t.2.2.1, t.2.2.2.1, t.2.2.2.2.1, t.2.2.2.2.2⟩) (j + 1 : Nat)) ?k1) fun K => ?k2
      case k1 =>
        have := toOS_l0 l hn hb d (j + 1) (by omega)
        rw [← cpO_succ] at this
        exact this
      case k2 =>
        rw [laws_toSpaceOpS.l0, if_pos (by omega), if_pos (by omega), cpO_len, Int.toNat_natCast, rdL, w64s (by omega)]
        congr 1
        funext t
        rw [if_pos (by omega)]
theorem toOS_f (l : List Lo) (hn : l.length ≤ 4398046511104) (hb : ∀ x ∈ l, x.f5.length ≤ 281474976710656) : Ev (fun K => laws_toSpaceOpS.f K l) (l.map conv) := Ev.congr (k := toOS_l0 l hn hb l.length 0 (by omega)) fun K => by
  rw [laws_toSpaceOpS.f, if_pos (by omega), if_pos (by omega), Int.toNat_natCast, cpO_zero]
  rfl
/-! ### sizes -/
theorem szO_f (x : Lo) (t : Int) (h0 : 0 ≤ t) (h1 : t ≤ 1048576) (hn : x.f5.length ≤ 9223372036854775807) : laws_szSpaceOp.f x.f0 x.f1 x.f2 x.f3 x.f4 x.f5 t = some (if t - x.f5.length < 0 then -1 else t - x.f5.length) := by
  rw [laws_szSpaceOp.f, laws_szByteS.f, w64w (by omega) (by omega)]
  by_cases c : t - x.f5.length < 0
  · rw [if_pos c, if_pos c]; rfl
  · rw [if_neg c, if_neg c, Option.bind_some, if_neg c]
theorem szOS_l0 (l : List Lo) (hn : l.length ≤ 1048576) (hb : ∀ x ∈ l, x.f5.length ≤ 9223372036854775807) : ∀ d j : Nat, j + d = l.length → ∀ t : Int, 0 ≤ t → t ≤ 1048576 → ∃ r, Ev (fun K => laws_szSpaceOpS.l0 K l t j) r ∧ r ≤ 1048576 ∧ -1 ≤ r ∧ (0 ≤ r → ∀ i : Nat, j ≤ i → i < l.length → ((l.getD i zL).f5.length : Int) ≤ t)
  | 0, j, h, t, h0, h1 => by
      refine ⟨t, Ev.step (k := Ev.now _) fun K => ?_, h1, by omega, fun _ i hi hj => by omega⟩
      rw [laws_szSpaceOpS.l0, if_neg (by omega)]
  | d + 1, j, h, t, h0, h1 => by
      have hz := szO_f (l.getD j zL) t h0 h1 (hb _ (getD_mem (by omega)))
      by_cases c : t - (l.getD j zL).f5.length < 0
      · refine ⟨-1, Ev.step (k := Ev.now _) fun K => ?_, by omega, by omega, fun hr => absurd hr (by omega)⟩
        rw [laws_szSpaceOpS.l0, if_pos (by omega), if_pos (by omega), rdL, hz, if_pos c, Option.bind_some, if_pos (by omega)]
      · obtain ⟨r, hr, hr1, hr2, hr3⟩ := szOS_l0 l hn hb d (j + 1) (by omega) (t - (l.getD j zL).f5.length) (by omega) (by omega)
        refine ⟨r, Ev.step (k := hr) fun K => ?_, hr1, hr2, fun h2 i hi hil => ?_⟩
        · rw [laws_szSpaceOpS.l0, if_pos (by omega), if_pos (by omega), rdL, hz, if_neg c, Option.bind_some, if_neg c, w64s (by omega)]
        · by_cases e : i = j
          · subst e; omega
          · have := hr3 h2 i (by omega) hil; omega
theorem szOS_f (l : List Lo) (hn : l.length ≤ 9223372036854775807) (hb : ∀ x ∈ l, x.f5.length ≤ 9223372036854775807) : ∃ r, Ev (fun K => laws_szSpaceOpS.f K l 1048576) r ∧ r ≤ 1048576 ∧ -1 ≤ r ∧ (0 ≤ r → l.length ≤ 1048576 ∧ ∀ x ∈ l, x.f5.length ≤ 1048576) := by
  have hw : wrap64 (1048576 - (l.length : Int)) = 1048576 - (l.length : Int) := w64w (by omega) (by omega)
  by_cases c : (1048576 : Int) - l.length < 0
  · refine ⟨-1, Ev.congr (k := Ev.now _) fun K => ?_, by omega, by omega, fun hr => absurd hr (by omega)⟩
    rw [laws_szSpaceOpS.f, hw, if_pos c]
  · obtain ⟨r, hr, hr1, hr2, hr3⟩ := szOS_l0 l (by omega) hb l.length 0 (by omega) (1048576 - l.length) (by omega) (by omega)
    refine ⟨r, Ev.congr (k := hr) fun K => ?_, hr1, hr2, fun h2 => ⟨by omega, fun x hx => ?_⟩⟩
    · rw [laws_szSpaceOpS.f, hw, if_neg c]; rfl
    · obtain ⟨i, hi, rfl⟩ := List.getElem_of_mem hx
      have := hr3 h2 i (by omega) hi
      rw [List.getD_eq_getElem?_getD, List.getElem?_eq_getElem hi] at this
      simp at this
      omega
end Go.Proofs.Ytklobepkihdbkaa.RsP
