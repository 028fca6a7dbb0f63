import Derived.Test.YtpgakpeodddnkaaCOnly
import Derived.Test.YtpgakpeodddnkaaCx12
namespace Go.Proofs.Ytpgakpeodddnkaa.C
open Go.RowKit Go.Proofs.YtpgakpeodddnkaaW.PrintWords Go.Proofs.YtpgakpeodddnkaaW.PrintLast Go.Proofs.YtpgakpeodddnkaaW.PrintMore

def plus (x y : List Int) : List Int := List.zipWith (fun a b => Go.bits .xor .u8 a b) x y
theorem plus_ev (vs : List Int) (a b : List Nat) : plus (a.map (ev vs)) (b.map (ev vs)) = (List.zipWith (· ^^^ ·) a b).map (ev vs) := by
  unfold plus
  rw [List.zipWith_map, List.map_zipWith]
  congr 1
  funext x y
  exact ev_xor vs x y
theorem plus_bytes (m : Nat) (x y : List Int) (hx : x.length = 4) (hy : y.length = 4) : supercargoref_PlusBytes.f (m + 10) x y = some (plus x y) := by
  obtain ⟨a, b, c, d, rfl⟩ := list4 hx
  obtain ⟨e, f, g, h, rfl⟩ := list4 hy
  simp [supercargoref_PlusBytes.f, supercargoref_PlusBytes.l0, wrap64, plus, rd]
theorem plus_len (x y : List Int) (hx : x.length = 4) (hy : y.length = 4) : (plus x y).length = 4 := by simp [plus, hx, hy]
def both (g h : List (List Int)) : List (List Int) := [plus (g.getD 0 []) (h.getD 0 []), plus (g.getD 1 []) (h.getD 1 []), plus (g.getD 2 []) (h.getD 2 []), plus (g.getD 3 []) (h.getD 3 [])]
theorem lin_loop (k : Nat) (g h : List (List Int)) (p q r s : List Int) (hg : isGrid g = true) (hh : isGrid h = true) :
    supercargolaw_CrossLinear.l0 (k + 20) g h p q r s [] 0 = supercargolaw_CrossLinear.l0 (k + 16) g h p q r s (both g h) 4 := by
  have h1 := (grid_all hg).1
  have h2 := (grid_all hh).1
  have p0 := plus_bytes (k + 9) _ _ (grid_row hg 0 (by omega)) (grid_row hh 0 (by omega))
  have p1 := plus_bytes (k + 8) _ _ (grid_row hg 1 (by omega)) (grid_row hh 1 (by omega))
  have p2 := plus_bytes (k + 7) _ _ (grid_row hg 2 (by omega)) (grid_row hh 2 (by omega))
  have p3 := plus_bytes (k + 6) _ _ (grid_row hg 3 (by omega)) (grid_row hh 3 (by omega))
  simp only [Nat.add_assoc, Nat.reduceAdd] at p0 p1 p2 p3
  rw [supercargolaw_CrossLinear.l0, if_pos (by omega), if_pos (by omega), if_pos (by omega), if_pos (by omega), show rd_L3 g 0 = g.getD 0 [] from rfl, show rd_L3 h 0 = h.getD 0 [] from rfl, p0, Option.bind_some, if_pos (by simp), show wrap64 (0 + 1) = 1 from by unfold wrap64; omega]
  rw [supercargolaw_CrossLinear.l0, if_pos (by omega), if_pos (by omega), if_pos (by omega), if_pos (by omega), show rd_L3 g 1 = g.getD 1 [] from rfl, show rd_L3 h 1 = h.getD 1 [] from rfl, p1, Option.bind_some, if_pos (by simp), show wrap64 (1 + 1) = 2 from by unfold wrap64; omega]
  rw [supercargolaw_CrossLinear.l0, if_pos (by omega), if_pos (by omega), if_pos (by omega), if_pos (by omega), show rd_L3 g 2 = g.getD 2 [] from rfl, show rd_L3 h 2 = h.getD 2 [] from rfl, p2, Option.bind_some, if_pos (by simp), show wrap64 (2 + 1) = 3 from by unfold wrap64; omega]
  rw [supercargolaw_CrossLinear.l0, if_pos (by omega), if_pos (by omega), if_pos (by omega), if_pos (by omega), show rd_L3 g 3 = g.getD 3 [] from rfl, show rd_L3 h 3 = h.getD 3 [] from rfl, p3, Option.bind_some, if_pos (by simp), show wrap64 (3 + 1) = 4 from by unfold wrap64; omega]
  rfl
def xorL (a b : List Nat) : List Nat := List.zipWith (· ^^^ ·) a b
def rowOf (s : Nat) : List Nat := mask4 s
def bothM : List (List Nat) := [xorL (mask4 0) (mask4 16), xorL (mask4 4) (mask4 20), xorL (mask4 8) (mask4 24), xorL (mask4 12) (mask4 28)]
theorem lin_rows : rowsM (laidM bothM) 4 = xorL (rowsM (maskG 0) 4) (rowsM (maskG 16) 4) := by decide +kernel
theorem lin_cross : crossM (linedM (laidM bothM) 4) 4 = xorL (crossM (linedM (maskG 0) 4) 4) (crossM (linedM (maskG 16) 4) 4) := by decide +kernel
theorem lin_end (g h : List (List Int)) (w0 : ∀ r ∈ g, Wf .u8 r) (w1 : ∀ r ∈ h, Wf .u8 r) (hg : isGrid g = true) (hh : isGrid h = true) :
    rowsTo (laidK (both g h) 4) 4 = plus (rowsTo (laidK g 4) 4) (rowsTo (laidK h 4) 4) ∧ crossTo (lined (laidK (both g h) 4) 4) 4 = plus (crossTo (lined (laidK g 4) 4) 4) (crossTo (lined (laidK h 4) 4) 4) := by
  obtain ⟨x0, x1, x2, x3, x4, x5, x6, x7, x8, x9, x10, x11, x12, x13, x14, x15, rfl⟩ := grid_form hg
  obtain ⟨y0, y1, y2, y3, y4, y5, y6, y7, y8, y9, y10, y11, y12, y13, y14, y15, rfl⟩ := grid_form hh
  obtain ⟨vs, hvs⟩ : ∃ vs : List Int, vs = [x0, x1, x2, x3, x4, x5, x6, x7, x8, x9, x10, x11, x12, x13, x14, x15, y0, y1, y2, y3, y4, y5, y6, y7, y8, y9, y10, y11, y12, y13, y14, y15] := ⟨_, rfl⟩
  have hw : ∀ x ∈ vs, (Lit.int .u8 x).wf = true := by
    rw [hvs]
    simp only [Wf, List.mem_cons, List.not_mem_nil, or_false, forall_eq_or_imp, forall_eq] at w0 w1 ⊢
    simp only [w0, w1, and_self]
  have e0 := maskG_ev hw 0 x0 x1 x2 x3 x4 x5 x6 x7 x8 x9 x10 x11 x12 x13 x14 x15 (by simp [hvs]) (by simp [hvs]) (by simp [hvs]) (by simp [hvs])
  have e1 := maskG_ev hw 16 y0 y1 y2 y3 y4 y5 y6 y7 y8 y9 y10 y11 y12 y13 y14 y15 (by simp [hvs]) (by simp [hvs]) (by simp [hvs]) (by simp [hvs])
  have hb : both [[x0, x1, x2, x3], [x4, x5, x6, x7], [x8, x9, x10, x11], [x12, x13, x14, x15]] [[y0, y1, y2, y3], [y4, y5, y6, y7], [y8, y9, y10, y11], [y12, y13, y14, y15]] = bothM.map (List.map (ev vs)) := by
    show [plus [x0, x1, x2, x3] [y0, y1, y2, y3], plus [x4, x5, x6, x7] [y4, y5, y6, y7], plus [x8, x9, x10, x11] [y8, y9, y10, y11], plus [x12, x13, x14, x15] [y12, y13, y14, y15]] = _
    rw [mask4_ev hw 0 x0 x1 x2 x3 (by simp [hvs]), mask4_ev hw 4 x4 x5 x6 x7 (by simp [hvs]), mask4_ev hw 8 x8 x9 x10 x11 (by simp [hvs]), mask4_ev hw 12 x12 x13 x14 x15 (by simp [hvs])]
    rw [mask4_ev hw 16 y0 y1 y2 y3 (by simp [hvs]), mask4_ev hw 20 y4 y5 y6 y7 (by simp [hvs]), mask4_ev hw 24 y8 y9 y10 y11 (by simp [hvs]), mask4_ev hw 28 y12 y13 y14 y15 (by simp [hvs])]
    rw [plus_ev, plus_ev, plus_ev, plus_ev]
    rfl
  rw [hb, laid_ev vs bothM rfl, e0, e1, rows_ev, lined_ev, cross_ev, rows_ev, rows_ev, lined_ev, lined_ev, cross_ev, cross_ev, plus_ev, plus_ev, lin_rows, lin_cross]
  exact ⟨rfl, rfl⟩
theorem both_grid (g h : List (List Int)) (hg : isGrid g = true) (hh : isGrid h = true) : isGrid (both g h) = true := by
  have p0 := plus_len _ _ (grid_row hg 0 (by omega)) (grid_row hh 0 (by omega))
  have p1 := plus_len _ _ (grid_row hg 1 (by omega)) (grid_row hh 1 (by omega))
  have p2 := plus_len _ _ (grid_row hg 2 (by omega)) (grid_row hh 2 (by omega))
  have p3 := plus_len _ _ (grid_row hg 3 (by omega)) (grid_row hh 3 (by omega))
  unfold both
  revert p0 p1 p2 p3
  generalize plus (g.getD 0 []) (h.getD 0 []) = a0
  generalize plus (g.getD 1 []) (h.getD 1 []) = a1
  generalize plus (g.getD 2 []) (h.getD 2 []) = a2
  generalize plus (g.getD 3 []) (h.getD 3 []) = a3
  intro p0 p1 p2 p3
  simp [isGrid, p0, p1, p2, p3]
theorem rows_len (gs : List Int) : (rowsTo gs 4).length = 4 := by simp [rowsTo]
theorem cross_len (gs : List Int) : (crossTo gs 4).length = 4 := by simp [crossTo]
theorem supercargolaw_CrossLinear.pure (l0 : List (List Int)) (w0 : ∀ r ∈ l0, Wf .u8 r) (l1 : List (List Int)) (w1 : ∀ r ∈ l1, Wf .u8 r) : ∃ k, supercargolaw_CrossLinear.f k l0 l1 = some true := by
  refine ⟨60, ?_⟩
  have hb := begun
  unfold supercargolaw_CrossLinear.f cross_Encode.f
  by_cases hg : isGrid l0 = true
  · by_cases hh : isGrid l1 = true
    · obtain ⟨e1, e2⟩ := lin_end l0 l1 w0 w1 hg hh
      have hbg := both_grid l0 l1 hg hh
      have hl := lin_loop 39 l0 l1 (rowsTo (laidK l0 4) 4) (crossTo (lined (laidK l0 4) 4) 4) (rowsTo (laidK l1 4) 4) (crossTo (lined (laidK l1 4) 4) 4) hg hh
      have hp1 := plus_bytes 44 _ _ (rows_len (laidK l0 4)) (rows_len (laidK l1 4))
      have hp2 := plus_bytes 44 _ _ (cross_len (lined (laidK l0 4) 4)) (cross_len (lined (laidK l1 4) 4))
      have hs1 := same_bytes 44 _ (plus_len _ _ (rows_len (laidK l0 4)) (rows_len (laidK l1 4)))
      have hs2 := same_bytes 44 _ (plus_len _ _ (cross_len (lined (laidK l0 4) 4)) (cross_len (lined (laidK l1 4) 4)))
      rw [if_pos hg, if_pos hh]
      simp only [Option.bind_some, hb, if_true]
      rw [supercargolaw_CrossLinear.j0, if_neg (by decide)]
      refine hl.trans ?_
      rw [supercargolaw_CrossLinear.l0, if_neg (by omega)]
      simp only [cross_Encode.f, hbg, if_true, Option.bind_some, e1, e2, hp1, hp2, hs1, hs2]
    · rw [if_pos hg, if_neg hh]
      simp only [Option.bind_some, hb, if_true]
      rw [supercargolaw_CrossLinear.j0, if_pos (by decide)]
  · rw [if_neg hg]
    simp only [Option.bind_some, hb, if_true]
    rw [if_neg (by decide), supercargolaw_CrossLinear.j0, if_pos rfl]
end Go.Proofs.Ytpgakpeodddnkaa.C
