import Derived.Test.YtpgakpeodddnkaaCOnly
import Derived.Test.YtpgakpeodddnkaaCx10
namespace Go.Proofs.Ytpgakpeodddnkaa.C
open Go.RowKit Go.Proofs.YtpgakpeodddnkaaW.PrintWords Go.Proofs.YtpgakpeodddnkaaW.PrintLast Go.Proofs.YtpgakpeodddnkaaW.PrintMore

def put2 (a b : Nat) (x y : List Int) : List Int := (x.set a (rd y a)).set b (rd y b)
def lostG (a b : Nat) (g h : List (List Int)) : List (List Int) := [put2 a b (g.getD 0 []) (h.getD 0 []), put2 a b (g.getD 1 []) (h.getD 1 []), put2 a b (g.getD 2 []) (h.getD 2 []), put2 a b (g.getD 3 []) (h.getD 3 [])]
theorem reb_step (k i : Nat) (g h acc : List (List Int)) (a b : Nat) (p q : List Int) (hg : isGrid g = true) (hh : isGrid h = true) (hi : i < 4) (ha : a < 4) (hb : b < 4) (hacc : acc.length = i) :
    supercargolaw_CrossRebuilds.l0 (k + 1) g h a b p q acc i = supercargolaw_CrossRebuilds.l0 k g h a b p q (acc ++ [put2 a b (g.getD i []) (h.getD i [])]) ((i + 1 : Nat) : Int) := by
  have h1 := (grid_all hg).1
  have h2 := (grid_all hh).1
  have r1 : (rd_L3 g i).length = 4 := grid_row hg i hi
  have r2 : (rd_L3 h i).length = 4 := grid_row hh i hi
  rw [supercargolaw_CrossRebuilds.l0, if_pos (by omega), Option.bind_some, if_pos (by omega), if_pos (by omega), if_pos (by rw [r1]; decide), Option.bind_some, if_pos (by omega), if_pos (by omega), if_pos (by omega), if_pos (by omega), if_pos (by omega),
    if_pos (by rw [List.nil_append, r1]; omega), if_pos (by rw [List.nil_append, r1]; omega), if_pos (by omega), w64 i (by omega)]
  rfl
theorem reb_loop (k : Nat) (g h : List (List Int)) (a b : Nat) (p q : List Int) (hg : isGrid g = true) (hh : isGrid h = true) (ha : a < 4) (hb : b < 4) :
    supercargolaw_CrossRebuilds.l0 (k + 4) g h a b p q [] 0 = supercargolaw_CrossRebuilds.l0 k g h a b p q (lostG a b g h) 4 :=
  (reb_step (k + 3) 0 g h _ a b p q hg hh (by omega) ha hb rfl).trans ((reb_step (k + 2) 1 g h _ a b p q hg hh (by omega) ha hb rfl).trans
    ((reb_step (k + 1) 2 g h _ a b p q hg hh (by omega) ha hb rfl).trans (reb_step k 3 g h _ a b p q hg hh (by omega) ha hb rfl)))
theorem put2_len (a b : Nat) (x y : List Int) : (put2 a b x y).length = x.length := by simp [put2]
theorem lost_grid (a b : Nat) (g h : List (List Int)) (hg : isGrid g = true) : isGrid (lostG a b g h) = true := by
  have p0 := (put2_len a b (g.getD 0 []) (h.getD 0 [])).trans (grid_row hg 0 (by omega))
  have p1 := (put2_len a b (g.getD 1 []) (h.getD 1 [])).trans (grid_row hg 1 (by omega))
  have p2 := (put2_len a b (g.getD 2 []) (h.getD 2 [])).trans (grid_row hg 2 (by omega))
  have p3 := (put2_len a b (g.getD 3 []) (h.getD 3 [])).trans (grid_row hg 3 (by omega))
  unfold lostG
  revert p0 p1 p2 p3
  generalize put2 a b (g.getD 0 []) (h.getD 0 []) = a0
  generalize put2 a b (g.getD 1 []) (h.getD 1 []) = a1
  generalize put2 a b (g.getD 2 []) (h.getD 2 []) = a2
  generalize put2 a b (g.getD 3 []) (h.getD 3 []) = a3
  intro p0 p1 p2 p3
  simp [isGrid, p0, p1, p2, p3]
def put2M (a b : Nat) (x y : List Nat) : List Nat := (x.set a (y.getD a 0)).set b (y.getD b 0)
theorem put2_ev (vs : List Int) (a b : Nat) (x y : List Nat) : put2 a b (x.map (ev vs)) (y.map (ev vs)) = (put2M a b x y).map (ev vs) := by
  unfold put2 put2M rd
  rw [Int.toNat_natCast, Int.toNat_natCast, getD_ev, getD_ev, set_ev, set_ev]
def lostM (a b : Nat) : List (List Nat) := [put2M a b (mask4 0) (mask4 16), put2M a b (mask4 4) (mask4 20), put2M a b (mask4 8) (mask4 24), put2M a b (mask4 12) (mask4 28)]
theorem reb_masks : ∀ a < 4, ∀ b < 4, a ≠ b → outM (endM (laidM (lostM a b)) (rowsM (maskG 0) 4) (crossM (linedM (maskG 0) 4) 4) a b) 4 = [mask4 0, mask4 4, mask4 8, mask4 12] := by decide +kernel
theorem reb_end (g h : List (List Int)) (w0 : ∀ r ∈ g, Wf .u8 r) (w1 : ∀ r ∈ h, Wf .u8 r) (hg : isGrid g = true) (hh : isGrid h = true) (a b : Nat) (ha : a < 4) (hb : b < 4) (hab : a ≠ b) :
    outRows (endG (lostG a b g h) (rowsTo (laidK g 4) 4) (crossTo (lined (laidK g 4) 4) 4) a b) 4 = g := by
  obtain ⟨x0, x1, x2, x3, x4, x5, x6, x7, x8, x9, x10, x11, x12, x13, x14, x15, rfl⟩ := grid_form hg
  obtain ⟨y0, y1, y2, y3, y4, y5, y6, y7, y8, y9, y10, y11, y12, y13, y14, y15, rfl⟩ := grid_form hh
  obtain ⟨vs, hvs⟩ : ∃ vs : List Int, vs = [x0, x1, x2, x3, x4, x5, x6, x7, x8, x9, x10, x11, x12, x13, x14, x15, y0, y1, y2, y3, y4, y5, y6, y7, y8, y9, y10, y11, y12, y13, y14, y15] := ⟨_, rfl⟩
  have hw : ∀ x ∈ vs, (Lit.int .u8 x).wf = true := by
    rw [hvs]
    simp only [Wf, List.mem_cons, List.not_mem_nil, or_false, forall_eq_or_imp, forall_eq] at w0 w1 ⊢
    simp only [w0, w1, and_self]
  have e0 := maskG_ev hw 0 x0 x1 x2 x3 x4 x5 x6 x7 x8 x9 x10 x11 x12 x13 x14 x15 (by simp [hvs]) (by simp [hvs]) (by simp [hvs]) (by simp [hvs])
  have a0 := mask4_ev hw 0 x0 x1 x2 x3 (by simp [hvs])
  have a1 := mask4_ev hw 4 x4 x5 x6 x7 (by simp [hvs])
  have a2 := mask4_ev hw 8 x8 x9 x10 x11 (by simp [hvs])
  have a3 := mask4_ev hw 12 x12 x13 x14 x15 (by simp [hvs])
  have hb' : lostG a b [[x0, x1, x2, x3], [x4, x5, x6, x7], [x8, x9, x10, x11], [x12, x13, x14, x15]] [[y0, y1, y2, y3], [y4, y5, y6, y7], [y8, y9, y10, y11], [y12, y13, y14, y15]] = (lostM a b).map (List.map (ev vs)) := by
    show [put2 a b [x0, x1, x2, x3] [y0, y1, y2, y3], put2 a b [x4, x5, x6, x7] [y4, y5, y6, y7], put2 a b [x8, x9, x10, x11] [y8, y9, y10, y11], put2 a b [x12, x13, x14, x15] [y12, y13, y14, y15]] = _
    rw [a0, a1, a2, a3]
    rw [mask4_ev hw 16 y0 y1 y2 y3 (by simp [hvs]), mask4_ev hw 20 y4 y5 y6 y7 (by simp [hvs]), mask4_ev hw 24 y8 y9 y10 y11 (by simp [hvs]), mask4_ev hw 28 y12 y13 y14 y15 (by simp [hvs])]
    rw [put2_ev, put2_ev, put2_ev, put2_ev]
    rfl
  have hl := laid_ev vs (lostM a b) rfl
  rw [hb', e0, rows_ev, lined_ev, cross_ev, end_ev vs _ _ _ _ _ _ hl, out_ev, reb_masks a ha b hb hab]
  simp only [List.map_cons, List.map_nil]
  rw [a0, a1, a2, a3]
theorem supercargolaw_CrossRebuilds.pure (l0 : List (List Int)) (w0 : ∀ r ∈ l0, Wf .u8 r) (l1 : List (List Int)) (w1 : ∀ r ∈ l1, Wf .u8 r) (a3 : Int) (_w3 : (Lit.int .i64 a3).wf = true) (a4 : Int) (_w4 : (Lit.int .i64 a4).wf = true) :
    ∃ k, supercargolaw_CrossRebuilds.f k l0 l1 a3 a4 = some true := by
  refine ⟨60, ?_⟩
  have hb := begun
  have hj : ∀ p q, supercargolaw_CrossRebuilds.j0 60 l0 l1 a3 a4 p q true = some true := fun p q => by rw [supercargolaw_CrossRebuilds.j0, if_pos rfl]
  unfold supercargolaw_CrossRebuilds.f cross_Encode.f cross_Check.f
  by_cases hg : isGrid l0 = true
  · by_cases hh : isGrid l1 = true
    · rw [if_pos hg, if_pos hh]
      simp only [Option.bind_some, hb, if_true]
      by_cases h1 : a3 < 0
      · rw [if_pos h1, hj]
      by_cases h2 : a3 ≥ 4
      · rw [if_neg h1, if_pos h2, hj]
      by_cases h3 : a4 < 0
      · rw [if_neg h1, if_neg h2, if_pos h3, hj]
      by_cases h4 : a4 ≥ 4
      · rw [if_neg h1, if_neg h2, if_neg h3, if_pos h4, hj]
      rw [if_neg h1, if_neg h2, if_neg h3, if_neg h4]
      by_cases hab : a3 = a4
      · rw [show (a3 == a4) = true from beq_iff_eq.2 hab, hj]
      · rw [show (a3 == a4) = false from beq_eq_false_iff_ne.2 hab]
        obtain ⟨a, rfl⟩ : ∃ a : Nat, a3 = a := ⟨a3.toNat, by omega⟩
        obtain ⟨b, rfl⟩ : ∃ b : Nat, a4 = b := ⟨a4.toNat, by omega⟩
        have he := reb_end l0 l1 w0 w1 hg hh a b (by omega) (by omega) (by omega)
        have hl := reb_loop 55 l0 l1 a b (rowsTo (laidK l0 4) 4) (crossTo (lined (laidK l0 4) 4) 4) hg hh (by omega) (by omega)
        have hlg := lost_grid a b l0 l1 hg
        have hs := same_matrix 34 l0 (grid_all hg).1 (grid_all hg).2
        have hR : cross_Rebuild.f (lostG a b l0 l1) (rowsTo (laidK l0 4) 4) (crossTo (lined (laidK l0 4) 4) 4) a b = some (l0, 0) := by
          unfold cross_Rebuild.f
          rw [if_neg (by simp [hlg, rowsTo, crossTo]), if_neg (by omega), if_neg (by omega), Int.toNat_natCast, Int.toNat_natCast, he]
        rw [supercargolaw_CrossRebuilds.j0, if_neg (by decide)]
        refine hl.trans ?_
        rw [supercargolaw_CrossRebuilds.l0, if_neg (by omega), hR]
        simp only [Option.bind_some, if_true, hs]
    · rw [if_pos hg, if_neg hh]
      simp only [Option.bind_some, hb, if_true]
      rw [if_neg (by decide), hj]
  · rw [if_neg hg]
    simp only [Option.bind_some, hb, if_true]
    rw [if_neg (by decide), hj]
end Go.Proofs.Ytpgakpeodddnkaa.C
