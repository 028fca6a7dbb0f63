import Derived.Test.YtpgakpeodddnkaaCRebF
import Derived.Test.YtpgakpeodddnkaaCx9
import Derived.Laws.BitsLemmas
namespace Go.Proofs.Ytpgakpeodddnkaa.C
open Go.RowKit Go.Proofs.YtpgakpeodddnkaaW.PrintWords Go.Proofs.YtpgakpeodddnkaaW.PrintLast Go.Proofs.YtpgakpeodddnkaaW.PrintMore

def bv (x : Int) : BitVec 8 := BitVec.ofInt 8 x
def vb (b : BitVec 8) : Int := (b.toNat : Int)
theorem bv_vb (b : BitVec 8) : bv (vb b) = b := by simp [bv, vb]
theorem byte_of {x : Int} (h : (Lit.int .u8 x).wf = true) : 0 ≤ x ∧ x < 256 := by
  have h1 : IntKind.u8.wrap x = x := by
    have h2 := h
    simp only [Lit.wf] at h2
    revert h2
    simp [IntKind.wrap, IntKind.min, IntKind.max, IntKind.bits, IntKind.signed]
    omega
  rw [IntKind.wrap_u8] at h1
  omega
theorem vb_bv {x : Int} (h : (Lit.int .u8 x).wf = true) : vb (bv x) = x := by
  have h1 := byte_of h
  obtain ⟨n, rfl⟩ : ∃ n : Nat, x = n := ⟨x.toNat, by omega⟩
  simp [bv, vb]
  omega
theorem xor_bv (a b : Int) : Go.bits .xor .u8 a b = vb (bv a ^^^ bv b) := by
  have h := (bv a ^^^ bv b).isLt
  show IntKind.u8.wrap (((bv a ^^^ bv b).toNat : Nat) : Int) = _
  rw [IntKind.wrap_u8]
  unfold vb
  omega
/-- what a mask of variables stands for: the xor of those whose bit is set -/
def evB : List Int → Nat → BitVec 8
  | [], _ => 0
  | v :: vs, m => (if m % 2 = 1 then bv v else 0) ^^^ evB vs (m / 2)
def ev (vs : List Int) (m : Nat) : Int := vb (evB vs m)
theorem evB_zero (vs : List Int) : evB vs 0 = 0 := by
  induction vs with
  | nil => rfl
  | cons v vs ih => simp [evB, ih]
theorem ev_zero (vs : List Int) : ev vs 0 = 0 := by simp [ev, evB_zero, vb]
theorem evB_xor (vs : List Int) (a b : Nat) : evB vs (a ^^^ b) = evB vs a ^^^ evB vs b := by
  induction vs generalizing a b with
  | nil => simp [evB]
  | cons v vs ih =>
    simp only [evB]
    rw [Nat.xor_div_two, ih]
    have h1 : ((a ^^^ b) % 2 = 1) ↔ ¬ ((a % 2 = 1) ↔ (b % 2 = 1)) := Nat.xor_mod_two_eq_one
    have hx : (if (a ^^^ b) % 2 = 1 then bv v else 0) = (if a % 2 = 1 then bv v else 0) ^^^ (if b % 2 = 1 then bv v else 0) := by
      by_cases ha : a % 2 = 1 <;> by_cases hb : b % 2 = 1 <;> simp [h1, ha, hb]
    rw [hx]
    generalize (if a % 2 = 1 then bv v else 0) = p
    generalize (if b % 2 = 1 then bv v else 0) = q
    generalize evB vs (a / 2) = r
    generalize evB vs (b / 2) = s
    rw [BitVec.xor_assoc, BitVec.xor_assoc, ← BitVec.xor_assoc q r s, BitVec.xor_comm q r, BitVec.xor_assoc r q s]
theorem ev_xor (vs : List Int) (a b : Nat) : Go.bits .xor .u8 (ev vs a) (ev vs b) = ev vs (a ^^^ b) := by
  rw [xor_bv, ev, ev, bv_vb, bv_vb, ← evB_xor]
  rfl
theorem evB_pow (vs : List Int) (i : Nat) (h : i < vs.length) : evB vs (2 ^ i) = bv (vs.getD i 0) := by
  induction vs generalizing i with
  | nil => simp at h
  | cons v vs ih =>
    cases i with
    | zero => simp [evB, evB_zero]
    | succ i =>
      simp only [evB]
      rw [show 2 ^ (i + 1) / 2 = 2 ^ i from by rw [Nat.pow_succ]; omega, ih i (by simpa using h)]
      simp [Nat.pow_succ]
theorem ev_pow (vs : List Int) (i : Nat) (h : i < vs.length) (hw : ∀ x ∈ vs, (Lit.int .u8 x).wf = true) : ev vs (2 ^ i) = vs.getD i 0 := by
  rw [ev, evB_pow vs i h, vb_bv]
  rw [List.getD_eq_getElem?_getD, List.getElem?_eq_getElem h]
  exact hw _ (List.getElem_mem h)
/-- a list of variables is what its masks stand for -/
theorem ev_row (vs : List Int) (hw : ∀ x ∈ vs, (Lit.int .u8 x).wf = true) (xs : List Int) (is : List Nat) (h : xs = is.map fun i => vs.getD i 0) (hi : ∀ i ∈ is, i < vs.length) : xs = (is.map (2 ^ ·)).map (ev vs) := by
  rw [h, List.map_map]
  exact List.map_congr_left fun i hm => (ev_pow vs i (hi i hm) hw).symm

/-! the same over masks -/
def sumM (gs : List Nat) (l : List S62) : Nat := l.foldl (fun acc p => acc ^^^ gs.getD (p.f0.toNat * 5 + p.f1.toNat) 0) 0
theorem getD_ev (vs : List Int) (gs : List Nat) (i : Nat) : (gs.map (ev vs)).getD i 0 = ev vs (gs.getD i 0) := by
  rw [List.getD_eq_getElem?_getD, List.getD_eq_getElem?_getD, List.getElem?_map]
  cases gs[i]? with
  | none => simp [ev_zero]
  | some x => rfl
theorem sum_ev (vs : List Int) (gs : List Nat) (l : List S62) : sumOf (gs.map (ev vs)) l = ev vs (sumM gs l) := by
  have : ∀ a : Nat, l.foldl (fun acc p => Go.bits .xor .u8 acc ((gs.map (ev vs)).getD (p.f0.toNat * 5 + p.f1.toNat) 0)) (ev vs a) = ev vs (l.foldl (fun acc p => acc ^^^ gs.getD (p.f0.toNat * 5 + p.f1.toNat) 0) a) := by
    induction l with
    | nil => intro a; rfl
    | cons p l ih =>
      intro a
      simp only [List.foldl_cons]
      rw [getD_ev, ev_xor, ih]
  have h0 := this 0
  rw [ev_zero] at h0
  exact h0
theorem set_ev (vs : List Int) (gs : List Nat) (i x : Nat) : (gs.map (ev vs)).set i (ev vs x) = (gs.set i x).map (ev vs) := by rw [List.map_set]
def linedM (gs : List Nat) : Nat → List Nat
  | 0 => gs
  | k + 1 => (linedM gs k).set (k * 5 + 4) (sumM (linedM gs k) (linesL k))
theorem lined_ev (vs : List Int) (gs : List Nat) (k : Nat) : lined (gs.map (ev vs)) k = (linedM gs k).map (ev vs) := by
  induction k with
  | zero => rfl
  | succ k ih => rw [lined, lineStep, ih, sum_ev, set_ev]; rfl
def rowsM (gs : List Nat) (k : Nat) : List Nat := (List.range k).map fun i => sumM (linedM gs i) (linesL i)
theorem rows_ev (vs : List Int) (gs : List Nat) (k : Nat) : rowsTo (gs.map (ev vs)) k = (rowsM gs k).map (ev vs) := by
  simp only [rowsTo, rowsM, List.map_map]
  exact List.map_congr_left fun i _ => by rw [lined_ev, sum_ev]; rfl
def crossM (gs : List Nat) (k : Nat) : List Nat := (List.range k).map fun i : Nat => sumM gs (crossesL (i : Int))
theorem cross_ev (vs : List Int) (gs : List Nat) (k : Nat) : crossTo (gs.map (ev vs)) k = (crossM gs k).map (ev vs) := by
  simp only [crossTo, crossM, List.map_map]
  exact List.map_congr_left fun i _ => by rw [sum_ev]; rfl
def inM (gs l1 : List Nat) : Nat → List Nat
  | 0 => gs
  | k + 1 => (inM gs l1 k).set (k * 5 + 4) (l1.getD k 0)
theorem in_ev (vs : List Int) (gs l1 : List Nat) (k : Nat) : inG (gs.map (ev vs)) (l1.map (ev vs)) k = (inM gs l1 k).map (ev vs) := by
  induction k with
  | zero => rfl
  | succ k ih => rw [inG, ih, getD_ev, set_ev]; rfl
abbrev StM := List Nat × List (Nat × Nat)
def fillMG (gs : List Nat) (L : List (Nat × Nat)) (l : List S62) (sum : Nat) : List Nat := match hits L l with
  | [p] => (gs.set (gi p) 0).set (gi p) (sumM (gs.set (gi p) 0) l ^^^ sum)
  | _ => gs
def fillM (st : StM) (l : List S62) (sum : Nat) : StM := (fillMG st.1 st.2 l sum, fillL st.2 l)
def evS (vs : List Int) (st : StM) : St := (st.1.map (ev vs), st.2)
theorem fill_ev (vs : List Int) (st : StM) (l : List S62) (sum : Nat) : fillS (evS vs st) l (ev vs sum) = evS vs (fillM st l sum) := by
  unfold fillS fillM evS
  refine Prod.ext ?_ rfl
  show fillG (st.1.map (ev vs)) st.2 l (ev vs sum) = _
  show _ = (fillMG st.1 st.2 l sum).map (ev vs)
  unfold fillG fillV fillMG
  generalize hits st.2 l = hs
  match hs with
  | [] => rfl
  | [p] =>
    show ((st.1.map (ev vs)).set (gi p) 0).set (gi p) (Go.bits .xor .u8 (sumOf ((st.1.map (ev vs)).set (gi p) 0) l) (ev vs sum)) = _
    have hz := set_ev vs st.1 (gi p) 0
    rw [ev_zero] at hz
    rw [hz, sum_ev, ev_xor, set_ev]
  | _ :: _ :: _ => rfl
def crossSM (l2 : List Nat) (st : StM) : Nat → StM
  | 0 => st
  | k + 1 => fillM (crossSM l2 st k) (crossesL k) (l2.getD k 0)
def rowSM (l1 : List Nat) (st : StM) : Nat → StM
  | 0 => st
  | k + 1 => fillM (rowSM l1 st k) (linesL k) (l1.getD k 0)
def roundsSM (l1 l2 : List Nat) (st : StM) : Nat → StM
  | 0 => st
  | n + 1 => rowSM l1 (crossSM l2 (roundsSM l1 l2 st n) 4) 4
theorem crossS_ev (vs : List Int) (l2 : List Nat) (st : StM) (k : Nat) : crossS (l2.map (ev vs)) (evS vs st) k = evS vs (crossSM l2 st k) := by
  induction k with
  | zero => rfl
  | succ k ih => rw [crossS, ih, getD_ev, fill_ev]; rfl
theorem rowS_ev (vs : List Int) (l1 : List Nat) (st : StM) (k : Nat) : rowS (l1.map (ev vs)) (evS vs st) k = evS vs (rowSM l1 st k) := by
  induction k with
  | zero => rfl
  | succ k ih => rw [rowS, ih, getD_ev, fill_ev]; rfl
theorem roundsS_ev (vs : List Int) (l1 l2 : List Nat) (st : StM) (k : Nat) : roundsS (l1.map (ev vs)) (l2.map (ev vs)) (evS vs st) k = evS vs (roundsSM l1 l2 st k) := by
  induction k with
  | zero => rfl
  | succ k ih => rw [roundsS, ih, roundS, crossS_ev, rowS_ev]; rfl
def endM (gs l1 l2 : List Nat) (a b : Nat) : List Nat := (roundsSM l1 l2 (inM gs l1 4, inL a b 4) 4).1
theorem end_ev (vs : List Int) (l0 : List (List Int)) (gs l1 l2 : List Nat) (a b : Nat) (h : laidK l0 4 = gs.map (ev vs)) : endG l0 (l1.map (ev vs)) (l2.map (ev vs)) a b = (endM gs l1 l2 a b).map (ev vs) := by
  unfold endG
  rw [h, in_ev, endM]
  generalize inM gs l1 4 = g1
  generalize inL a b 4 = L
  have e : evS vs (g1, L) = (g1.map (ev vs), L) := rfl
  rw [← e, roundsS_ev]
  generalize roundsSM l1 l2 (g1, L) 4 = s
  rfl
def outM (gs : List Nat) (k : Nat) : List (List Nat) := (List.range k).map fun i => [gs.getD (i * 5) 0, gs.getD (i * 5 + 1) 0, gs.getD (i * 5 + 2) 0, gs.getD (i * 5 + 3) 0]
theorem out_ev (vs : List Int) (gs : List Nat) (k : Nat) : outRows (gs.map (ev vs)) k = (outM gs k).map (List.map (ev vs)) := by
  simp only [outRows, outM, List.map_map]
  refine List.map_congr_left fun i _ => ?_
  simp only [outRow, getD_ev]
  rfl
theorem list4 {α : Type} {r : List α} (hr : r.length = 4) : ∃ a b c d : α, r = [a, b, c, d] := by
  match r, hr with
  | [a, b, c, d], _ => exact ⟨a, b, c, d, rfl⟩
theorem four_form {r : List Int} (hr : r.length = 4) : ∃ a b c d : Int, r = [a, b, c, d] := list4 hr
/-- a grid, as its four rows of four -/
theorem grid_form {l0 : List (List Int)} (h : isGrid l0 = true) : ∃ a b c d e f g i j k l m n o p q : Int, l0 = [[a, b, c, d], [e, f, g, i], [j, k, l, m], [n, o, p, q]] := by
  obtain ⟨h4, hr⟩ := grid_all h
  obtain ⟨r0, r1, r2, r3, rfl⟩ := list4 h4
  obtain ⟨a, b, c, d, rfl⟩ := list4 (hr r0 (by simp))
  obtain ⟨e, f, g, i, rfl⟩ := list4 (hr r1 (by simp))
  obtain ⟨j, k, l, m, rfl⟩ := list4 (hr r2 (by simp))
  obtain ⟨n, o, p, q, rfl⟩ := list4 (hr r3 (by simp))
  exact ⟨a, b, c, d, e, f, g, i, j, k, l, m, n, o, p, q, rfl⟩
theorem begun : supercargolaw_crossBegun.f 60 = some true := by kernel_rfl
theorem same_bytes (m : Nat) (l : List Int) (h : l.length = 4) : supercargoref_SameBytes.f (m + 10) l l = some true := by
  obtain ⟨a, b, c, d, rfl⟩ := list4 h
  simp [supercargoref_SameBytes.f, supercargoref_SameBytes.l0, wrap64]
theorem same_matrix (m : Nat) (l : List (List Int)) (h : l.length = 4) (hr : ∀ r ∈ l, r.length = 4) : supercargoref_SameMatrix.f (m + 20) l l = some true := by
  obtain ⟨r0, r1, r2, r3, rfl⟩ := list4 h
  have h0 := same_bytes (m + 9) r0 (hr _ (by simp))
  have h1 := same_bytes (m + 8) r1 (hr _ (by simp))
  have h2 := same_bytes (m + 7) r2 (hr _ (by simp))
  have h3 := same_bytes (m + 6) r3 (hr _ (by simp))
  simp [supercargoref_SameMatrix.f, supercargoref_SameMatrix.l0, wrap64, rd_L3, h0, h1, h2, h3]
theorem same_none (m : Nat) : supercargoref_SameMatrix.f (m + 20) [] [] = some true := by
  simp [supercargoref_SameMatrix.f, supercargoref_SameMatrix.l0]
theorem out_len (gs : List Int) : (outRows gs 4).length = 4 ∧ ∀ r ∈ outRows gs 4, r.length = 4 := by
  refine ⟨by simp [outRows], fun r hr => ?_⟩
  simp only [outRows, List.mem_map] at hr
  obtain ⟨i, _, rfl⟩ := hr
  rfl
/-- masks of a grid: the variables from s on, in their places -/
def maskG (s : Nat) : List Nat := [2^s, 2^(s+1), 2^(s+2), 2^(s+3), 0, 2^(s+4), 2^(s+5), 2^(s+6), 2^(s+7), 0, 2^(s+8), 2^(s+9), 2^(s+10), 2^(s+11), 0, 2^(s+12), 2^(s+13), 2^(s+14), 2^(s+15), 0]
def mask4 (s : Nat) : List Nat := [2^s, 2^(s+1), 2^(s+2), 2^(s+3)]
theorem cons_ev (vs : List Int) (x : Int) (xs : List Int) (m : Nat) (ms : List Nat) (h : x = ev vs m) (hs : xs = ms.map (ev vs)) : x :: xs = (m :: ms).map (ev vs) := by rw [h, hs]; rfl
theorem one_ev {vs : List Int} (hw : ∀ x ∈ vs, (Lit.int .u8 x).wf = true) (i : Nat) (x : Int) (h : vs[i]? = some x) : x = ev vs (2 ^ i) := by
  obtain ⟨hi, hx⟩ := List.getElem?_eq_some_iff.1 h
  rw [ev_pow vs i hi hw, List.getD_eq_getElem?_getD, h]
  rfl
theorem mask4_ev {vs : List Int} (hw : ∀ x ∈ vs, (Lit.int .u8 x).wf = true) (s : Nat) (a b c d : Int) (h : vs[s]? = some a ∧ vs[s+1]? = some b ∧ vs[s+2]? = some c ∧ vs[s+3]? = some d) : [a, b, c, d] = (mask4 s).map (ev vs) := by
  obtain ⟨ha, hb, hc, hd⟩ := h
  exact cons_ev _ _ _ _ _ (one_ev hw _ _ ha) (cons_ev _ _ _ _ _ (one_ev hw _ _ hb) (cons_ev _ _ _ _ _ (one_ev hw _ _ hc) (cons_ev _ _ _ _ _ (one_ev hw _ _ hd) rfl)))
theorem maskG_ev {vs : List Int} (hw : ∀ x ∈ vs, (Lit.int .u8 x).wf = true) (s : Nat) (a b c d e f g i j k l m n o p q : Int)
    (h0 : vs[s]? = some a ∧ vs[s+1]? = some b ∧ vs[s+2]? = some c ∧ vs[s+3]? = some d) (h1 : vs[s+4]? = some e ∧ vs[s+5]? = some f ∧ vs[s+6]? = some g ∧ vs[s+7]? = some i)
    (h2 : vs[s+8]? = some j ∧ vs[s+9]? = some k ∧ vs[s+10]? = some l ∧ vs[s+11]? = some m) (h3 : vs[s+12]? = some n ∧ vs[s+13]? = some o ∧ vs[s+14]? = some p ∧ vs[s+15]? = some q) :
    laidK [[a, b, c, d], [e, f, g, i], [j, k, l, m], [n, o, p, q]] 4 = (maskG s).map (ev vs) := by
  have e0 := mask4_ev hw s a b c d h0
  have e1 := mask4_ev hw (s + 4) e f g i h1
  have e2 := mask4_ev hw (s + 8) j k l m h2
  have e3 := mask4_ev hw (s + 12) n o p q h3
  show [a, b, c, d] ++ (0 :: ([e, f, g, i] ++ (0 :: ([j, k, l, m] ++ (0 :: ([n, o, p, q] ++ [0])))))) = _
  rw [e0, e1, e2, e3]
  have hz := ev_zero vs
  simp only [maskG, mask4, List.map_cons, List.map_nil, List.cons_append, List.nil_append, hz, Nat.add_assoc, Nat.reduceAdd]
end Go.Proofs.Ytpgakpeodddnkaa.C
