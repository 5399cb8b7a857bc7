/- An order read by the reference. Written by mkgb.py. -/
import Derived.Test.YtbnikblhnibgiaaDoorGA
namespace Go.Proofs.YtbnikblhnibgiaaDoor
open Go.RowKit
theorem setO4 (w : World) (b : Nat) (v0 v1 v2 v3 : Value) {u0 u1 u2 u3 : Value} (h0 : w.cell? ⟨b, 0, none⟩ = some u0) (h1 : w.cell? ⟨b, 1, none⟩ = some u1) (h2 : w.cell? ⟨b, 2, none⟩ = some u2) (h3 : w.cell? ⟨b, 3, none⟩ = some u3) :
    ((((w.setCell ⟨b, 0, none⟩ v0).setCell ⟨b, 1, none⟩ v1).setCell ⟨b, 2, none⟩ v2).setCell ⟨b, 3, none⟩ v3).cell? ⟨b, 0, none⟩ = some v0 ∧ ((((w.setCell ⟨b, 0, none⟩ v0).setCell ⟨b, 1, none⟩ v1).setCell ⟨b, 2, none⟩ v2).setCell ⟨b, 3, none⟩ v3).cell? ⟨b, 1, none⟩ = some v1 ∧
    ((((w.setCell ⟨b, 0, none⟩ v0).setCell ⟨b, 1, none⟩ v1).setCell ⟨b, 2, none⟩ v2).setCell ⟨b, 3, none⟩ v3).cell? ⟨b, 2, none⟩ = some v2 ∧ ((((w.setCell ⟨b, 0, none⟩ v0).setCell ⟨b, 1, none⟩ v1).setCell ⟨b, 2, none⟩ v2).setCell ⟨b, 3, none⟩ v3).cell? ⟨b, 3, none⟩ = some v3 := by
  have o : ∀ (w : World) (i j : Nat) (v : Value), i ≠ j → (w.setCell ⟨b, i, none⟩ v).cell? ⟨b, j, none⟩ = w.cell? ⟨b, j, none⟩ := fun w i j v h => World.cell?_setCell_other _ _ _ _ (by intro e; cases e; exact h rfl)
  refine ⟨?_, ?_, ?_, ?_⟩
  · rw [o _ 3 0 _ (by omega), o _ 2 0 _ (by omega), o _ 1 0 _ (by omega)]; exact World.cell?_setCell_same _ _ _ h0
  · rw [o _ 3 1 _ (by omega), o _ 2 1 _ (by omega)]; exact World.cell?_setCell_same _ _ _ (by rw [o _ 0 1 _ (by omega)]; exact h1)
  · rw [o _ 3 2 _ (by omega)]; exact World.cell?_setCell_same _ _ _ (by rw [o _ 1 2 _ (by omega), o _ 0 2 _ (by omega)]; exact h2)
  · exact World.cell?_setCell_same _ _ _ (by rw [o _ 2 3 _ (by omega), o _ 1 3 _ (by omega), o _ 0 3 _ (by omega)]; exact h3)
/-- An order that is being read: its words in block g, the order in block Z. -/
structure ROrd (w wx : World) (g Z : Nat) (ws : List ByteArray) (x r t e : Int) : Prop where
  bel : Below w.heap.size w wx
  hg : w.heap.size < g ∧ g < wx.heap.size ∧ g ≠ Z
  hZ : w.heap.size < Z ∧ Z < wx.heap.size
  wd : ∀ j, j < ws.length → wx.cell? ⟨g, j, none⟩ = some (.string (nthBA ws j))
  c0 : wx.cell? ⟨Z, 0, none⟩ = some (.int .i64 x)
  c1 : wx.cell? ⟨Z, 1, none⟩ = some (.int .i64 r)
  c2 : wx.cell? ⟨Z, 2, none⟩ = some (.int .i64 t)
  c3 : wx.cell? ⟨Z, 3, none⟩ = some (.int .i64 e)
  zf : ∀ i, wx.frozen? ⟨Z, i, none⟩ = false
  r0 : ∃ u, wx.cell? ⟨w.heap.size, 0, none⟩ = some u
  r1 : ∃ u, wx.cell? ⟨w.heap.size, 1, none⟩ = some u
  r2 : ∃ u, wx.cell? ⟨w.heap.size, 2, none⟩ = some u
  r3 : ∃ u, wx.cell? ⟨w.heap.size, 3, none⟩ = some u
  rf : ∀ i, wx.frozen? ⟨w.heap.size, i, none⟩ = false
theorem ROrd.below {w wx wy : World} {g Z : Nat} {ws : List ByteArray} {x r t e : Int} (h : ROrd w wx g Z ws x r t e) (hb : Below wx.heap.size wx wy) : ROrd w wy g Z ws x r t e := by
  have hz := hb.size
  obtain ⟨h1, ⟨h2, h2', h2''⟩, ⟨h3, h3'⟩, h4, h5, h6, h7, h8, h9, ⟨u0, i0⟩, ⟨u1, i1⟩, ⟨u2, i2⟩, ⟨u3, i3⟩, h10⟩ := h
  have hw : w.heap.size < wx.heap.size := by omega
  exact ⟨bnext h1 hb (Nat.le_refl _), ⟨h2, by omega, h2''⟩, ⟨h3, by omega⟩, fun j hj => (bcell1 hb h2').trans (h4 j hj), (bcell1 hb h3').trans h5, (bcell1 hb h3').trans h6, (bcell1 hb h3').trans h7, (bcell1 hb h3').trans h8,
    fun i => (hb.frozen (p := ⟨Z, i, none⟩) h3').trans (h9 i), ⟨u0, (bcell1 hb hw).trans i0⟩, ⟨u1, (bcell1 hb hw).trans i1⟩, ⟨u2, (bcell1 hb hw).trans i2⟩, ⟨u3, (bcell1 hb hw).trans i3⟩, fun i => (hb.frozen (p := ⟨w.heap.size, i, none⟩) hw).trans (h10 i)⟩
theorem oth_cell {wx : World} {Z i b j : Nat} {v : Value} (h : b ≠ Z ∨ j ≠ i) : (wx.setCell ⟨Z, i, none⟩ v).cell? ⟨b, j, none⟩ = wx.cell? ⟨b, j, none⟩ := World.cell?_setCell_other _ _ _ _ (by intro e; cases e; omega)
theorem ROrd.set0 {w wx : World} {g Z : Nat} {ws : List ByteArray} {x r t e : Int} (h : ROrd w wx g Z ws x r t e) (y : Int) : ROrd w (wx.setCell ⟨Z, 0, none⟩ (.int .i64 y)) g Z ws y r t e := by
  have hg := h.hg
  have hZ := h.hZ
  have hs : (wx.setCell ⟨Z, 0, none⟩ (.int .i64 y)).heap.size = wx.heap.size := (Exc.setCell _ _ _).size
  obtain ⟨u0, i0⟩ := h.r0
  obtain ⟨u1, i1⟩ := h.r1
  obtain ⟨u2, i2⟩ := h.r2
  obtain ⟨u3, i3⟩ := h.r3
  exact ⟨h.bel.setCell (by simp; omega) _, by rw [hs]; exact hg, by rw [hs]; exact hZ, fun j hj => (oth_cell (.inl hg.2.2)).trans (h.wd j hj), World.cell?_setCell_same _ _ _ h.c0, (oth_cell (by omega)).trans h.c1, (oth_cell (by omega)).trans h.c2, (oth_cell (by omega)).trans h.c3, fun i => by rw [World.frozen?_setCell]; exact h.zf i,
    ⟨u0, (oth_cell (by omega)).trans i0⟩, ⟨u1, (oth_cell (by omega)).trans i1⟩, ⟨u2, (oth_cell (by omega)).trans i2⟩, ⟨u3, (oth_cell (by omega)).trans i3⟩, fun i => by rw [World.frozen?_setCell]; exact h.rf i⟩
theorem ROrd.set1 {w wx : World} {g Z : Nat} {ws : List ByteArray} {x r t e : Int} (h : ROrd w wx g Z ws x r t e) (y : Int) : ROrd w (wx.setCell ⟨Z, 1, none⟩ (.int .i64 y)) g Z ws x y t e := by
  have hg := h.hg
  have hZ := h.hZ
  have hs : (wx.setCell ⟨Z, 1, none⟩ (.int .i64 y)).heap.size = wx.heap.size := (Exc.setCell _ _ _).size
  obtain ⟨u0, i0⟩ := h.r0
  obtain ⟨u1, i1⟩ := h.r1
  obtain ⟨u2, i2⟩ := h.r2
  obtain ⟨u3, i3⟩ := h.r3
  exact ⟨h.bel.setCell (by simp; omega) _, by rw [hs]; exact hg, by rw [hs]; exact hZ, fun j hj => (oth_cell (.inl hg.2.2)).trans (h.wd j hj), (oth_cell (by omega)).trans h.c0, World.cell?_setCell_same _ _ _ h.c1, (oth_cell (by omega)).trans h.c2, (oth_cell (by omega)).trans h.c3, fun i => by rw [World.frozen?_setCell]; exact h.zf i,
    ⟨u0, (oth_cell (by omega)).trans i0⟩, ⟨u1, (oth_cell (by omega)).trans i1⟩, ⟨u2, (oth_cell (by omega)).trans i2⟩, ⟨u3, (oth_cell (by omega)).trans i3⟩, fun i => by rw [World.frozen?_setCell]; exact h.rf i⟩
theorem ROrd.set2 {w wx : World} {g Z : Nat} {ws : List ByteArray} {x r t e : Int} (h : ROrd w wx g Z ws x r t e) (y : Int) : ROrd w (wx.setCell ⟨Z, 2, none⟩ (.int .i64 y)) g Z ws x r y e := by
  have hg := h.hg
  have hZ := h.hZ
  have hs : (wx.setCell ⟨Z, 2, none⟩ (.int .i64 y)).heap.size = wx.heap.size := (Exc.setCell _ _ _).size
  obtain ⟨u0, i0⟩ := h.r0
  obtain ⟨u1, i1⟩ := h.r1
  obtain ⟨u2, i2⟩ := h.r2
  obtain ⟨u3, i3⟩ := h.r3
  exact ⟨h.bel.setCell (by simp; omega) _, by rw [hs]; exact hg, by rw [hs]; exact hZ, fun j hj => (oth_cell (.inl hg.2.2)).trans (h.wd j hj), (oth_cell (by omega)).trans h.c0, (oth_cell (by omega)).trans h.c1, World.cell?_setCell_same _ _ _ h.c2, (oth_cell (by omega)).trans h.c3, fun i => by rw [World.frozen?_setCell]; exact h.zf i,
    ⟨u0, (oth_cell (by omega)).trans i0⟩, ⟨u1, (oth_cell (by omega)).trans i1⟩, ⟨u2, (oth_cell (by omega)).trans i2⟩, ⟨u3, (oth_cell (by omega)).trans i3⟩, fun i => by rw [World.frozen?_setCell]; exact h.rf i⟩
theorem ROrd.set3 {w wx : World} {g Z : Nat} {ws : List ByteArray} {x r t e : Int} (h : ROrd w wx g Z ws x r t e) (y : Int) : ROrd w (wx.setCell ⟨Z, 3, none⟩ (.int .i64 y)) g Z ws x r t y := by
  have hg := h.hg
  have hZ := h.hZ
  have hs : (wx.setCell ⟨Z, 3, none⟩ (.int .i64 y)).heap.size = wx.heap.size := (Exc.setCell _ _ _).size
  obtain ⟨u0, i0⟩ := h.r0
  obtain ⟨u1, i1⟩ := h.r1
  obtain ⟨u2, i2⟩ := h.r2
  obtain ⟨u3, i3⟩ := h.r3
  exact ⟨h.bel.setCell (by simp; omega) _, by rw [hs]; exact hg, by rw [hs]; exact hZ, fun j hj => (oth_cell (.inl hg.2.2)).trans (h.wd j hj), (oth_cell (by omega)).trans h.c0, (oth_cell (by omega)).trans h.c1, (oth_cell (by omega)).trans h.c2, World.cell?_setCell_same _ _ _ h.c3, fun i => by rw [World.frozen?_setCell]; exact h.zf i,
    ⟨u0, (oth_cell (by omega)).trans i0⟩, ⟨u1, (oth_cell (by omega)).trans i1⟩, ⟨u2, (oth_cell (by omega)).trans i2⟩, ⟨u3, (oth_cell (by omega)).trans i3⟩, fun i => by rw [World.frozen?_setCell]; exact h.rf i⟩
/-- The order is put where results go. -/
theorem ROrd.ret {w wx : World} {g Z : Nat} {ws : List ByteArray} {x r t e : Int} (h : ROrd w wx g Z ws x r t e) {R : Value} (hR : R = .agg #[.int .i64 x, .int .i64 r, .int .i64 t, .int .i64 e]) :
    RetV w R (.returned (.agg #[.int .i64 x, .int .i64 r, .int .i64 t, .int .i64 e])) ((((wx.setCell ⟨w.heap.size, 0, none⟩ (.int .i64 x)).setCell ⟨w.heap.size, 1, none⟩ (.int .i64 r)).setCell ⟨w.heap.size, 2, none⟩ (.int .i64 t)).setCell ⟨w.heap.size, 3, none⟩ (.int .i64 e)) :=
  ⟨by rw [hR], (((h.bel.setCell (Nat.le_refl _) _).setCell (Nat.le_refl _) _).setCell (Nat.le_refl _) _).setCell (Nat.le_refl _) _⟩
theorem sOrd_halt {line : Bs} (h : (cutL 32 line ++ [[], [], []])[0]? = some [104, 97, 108, 116]) : sOrd line = ⟨3, 0, 0, 0⟩ := by unfold sOrd; simp only; rw [if_pos h]
theorem sOrd_else {line : Bs} {ws : List ByteArray} (hws : ws.map (·.data.toList) = cutL 32 line ++ [[], [], []]) (h4 : 4 ≤ ws.length) (h : (nthBA ws 0).data.toList ≠ [104, 97, 108, 116]) :
    sOrd line = ⟨if (nthBA ws 0).data.toList = [115, 117, 98] then 2 else if (nthBA ws 0).data.toList = [97, 100, 100] then 1 else 3, num7 (nthBA ws 1).data.toList, num7 (nthBA ws 2).data.toList, num7 (nthBA ws 3).data.toList⟩ := by
  have e : ∀ k, k < ws.length → (cutL 32 line ++ [[], [], []])[k]? = some (nthBA ws k).data.toList := fun k hk => by
    rw [← hws, List.getElem?_map, List.getElem?_eq_getElem hk]
    simp [nthBA, hk]
  unfold sOrd
  simp only [List.getD_eq_getElem?_getD]
  rw [e 0 (by omega), e 1 (by omega), e 2 (by omega), e 3 (by omega), if_neg (by simpa using h)]
  simp
set_option maxHeartbeats 8000000 in
set_option maxRecDepth 100000 in
theorem l05Read_c (s : ByteArray) (hs : s.size ≤ 2097152) (w : World) :
    Calls Tryd.prog 39 #[.string s] w (RetV w (sOrd s.data.toList).val) := by
  obtain ⟨V, hV⟩ : ∃ V, V = (sOrd s.data.toList).val := ⟨_, rfl⟩
  rw [← hV]
  have HV0 := Lib.hid hV
  clear hV
  have C := Lib.hid (l07Words_c s 32 hs (w.alloc (.cells #[.int .i64 0, .int .i64 0, .int .i64 0, .int .i64 0] 60)))
  go_enter Tryd.func39, Tryd.ntmps39
  go_wp2_with fail
  refine C.out.mono ?_
  rintro e w2 ⟨v2, rfl, ws0, hws, hbl2, hwl, hb2⟩
  have hz1 : (w.alloc (.cells #[.int .i64 0, .int .i64 0, .int .i64 0, .int .i64 0] 60)).heap.size = w.heap.size + 1 := by simp
  rw [hz1] at hbl2 hb2
  have hz2 : w.heap.size + 1 ≤ w2.heap.size := by have := hb2.size; omega
  have hb3 := below_alloc w2 (.cells #[.string ⟨#[]⟩, .string ⟨#[]⟩, .string ⟨#[]⟩] 9)
  have HBL := Lib.hid (hbl2.below hb3)
  have HBX := Lib.hid (hb2.trans (hb3.mono hz2))
  have HZ2 := Lib.hid hz2
  have HWS0 := Lib.hid hws
  have HWL := Lib.hid hwl
  clear hb3 hbl2 hb2 hz1 C hws hwl hz2
  go_wp2_with (at_builtin; refine app_strs rfl _ _ 53 rfl tabStr rfl (by decide) (w.heap.size + 1) _ _ rfl HBL.out w2.heap.size 3 [⟨#[]⟩, ⟨#[]⟩, ⟨#[]⟩] rfl rfl ?c1 ?c2 (by omega) ?c3 ?_)
  case c1 =>
    intro j u hu
    match j, hu with
    | 0, hu => simp at hu; subst hu; simp
    | 1, hu => simp at hu; subst hu; simp
    | 2, hu => simp at hu; subst hu; simp
  case c2 => have := HWL.out; simp; omega
  case c3 => have := HZ2.out; simp; omega
  intro v4 w4 hbl4 hb4
  have hbl5 : Bld 9 w4 (w.heap.size + 1) v4 ((ws0 ++ [(⟨#[]⟩ : ByteArray), ⟨#[]⟩, ⟨#[]⟩]).map Value.string) := by simpa using hbl4
  have hws4 : (ws0 ++ [(⟨#[]⟩ : ByteArray), ⟨#[]⟩, ⟨#[]⟩]).map (·.data.toList) = cutL 32 s.data.toList ++ [[], [], []] := by rw [List.map_append, HWS0.out]; rfl
  have hwl4 : 4 ≤ (ws0 ++ [(⟨#[]⟩ : ByteArray), ⟨#[]⟩, ⟨#[]⟩]).length ∧ (ws0 ++ [(⟨#[]⟩ : ByteArray), ⟨#[]⟩, ⟨#[]⟩]).length ≤ 2097156 := by
    have h0 := List.length_pos_iff.2 (cutL_ne 32 s.data.toList)
    have h1 := congrArg List.length HWS0.out
    have h2 := HWL.out
    simp at h1 ⊢
    omega
  obtain ⟨ws, hwsD⟩ : ∃ ws, ws = ws0 ++ [(⟨#[]⟩ : ByteArray), ⟨#[]⟩, ⟨#[]⟩] := ⟨_, rfl⟩
  rw [← hwsD] at hbl5 hws4 hwl4
  obtain ⟨g, c, rfl, hgB, hgl, hwc, hcell⟩ := hbl5.words (by intro e; rw [e] at hwl4; simp at hwl4)
  have HSZ : Hid (∀ j, j < ws.length → (nthBA ws j).size ≤ 2097152) := Lib.hid fun j hj => by
    have h1 := words_mem hws4 hj
    have h3 := sizeL (nthBA ws j)
    have h5 := sizeL s
    rcases List.mem_append.1 h1 with h2 | h2
    · have := cutL_size 32 _ _ h2
      omega
    · have h6 : (nthBA ws j).data.toList = [] := by simpa using h2
      rw [h6, List.length_nil] at h3; omega
  have hz4 : w.heap.size + 1 ≤ w4.heap.size := by have := hb4.size; have := HZ2.out; (try simp at this); omega
  have HRX : Hid (∀ x : Int, ROrd w (w4.alloc (.cells #[.int .i64 x, .int .i64 0, .int .i64 0, .int .i64 0] 60)) g w4.heap.size ws x 0 0 0) := Lib.hid fun x => by
    have hb5 := below_alloc w4 (.cells #[.int .i64 x, .int .i64 0, .int .i64 0, .int .i64 0] 60)
    have hB9 : Below (w.heap.size + 1) (w.alloc (.cells #[.int .i64 0, .int .i64 0, .int .i64 0, .int .i64 0] 60)) (w4.alloc (.cells #[.int .i64 x, .int .i64 0, .int .i64 0, .int .i64 0] 60)) := (HBX.out.trans hb4).trans (hb5.mono hz4)
    exact ⟨((below_alloc w _).trans (hB9.mono (Nat.le_succ _))), ⟨by omega, by simp; omega, by omega⟩, ⟨by omega, by simp⟩, fun j hj => (bcell1 hb5 hgl).trans (hcell j hj), by simp [go_sem], by simp [go_sem], by simp [go_sem], by simp [go_sem], fun i => by simp [go_sem],
      ⟨.int .i64 0, (bcell1 hB9 (by omega)).trans (by simp [go_sem])⟩, ⟨.int .i64 0, (bcell1 hB9 (by omega)).trans (by simp [go_sem])⟩, ⟨.int .i64 0, (bcell1 hB9 (by omega)).trans (by simp [go_sem])⟩, ⟨.int .i64 0, (bcell1 hB9 (by omega)).trans (by simp [go_sem])⟩, fun i => (hB9.frozen (p := ⟨w.heap.size, i, none⟩) (by simp)).trans (by simp [go_sem])⟩
  have HR := Lib.hid (HRX.out 3)
  have iw := ix_of (P := Tryd.prog) tabStr.under tabStr.size (a := some ⟨g, 0, none⟩) (n := ws.length) (fun _ => ⟨g, 0, rfl⟩) c
  simp only [Nat.mul_one, adr, blk, ofs, Nat.zero_add] at iw
  have h4 := hwl4.1
  have j0 := fun w' => iw 0 w' (by omega) (by omega)
  have j1 := fun w' => iw 1 w' (by omega) (by omega)
  have j2 := fun w' => iw 2 w' (by omega) (by omega)
  have j3 := fun w' => iw 3 w' (by omega) (by omega)
  simp only [show Int.toNat 0 = 0 from rfl, show Int.toNat 1 = 1 from rfl, show Int.toNat 2 = 2 from rfl, show Int.toNat 3 = 3 from rfl] at j0 j1 j2 j3
  have HWS := Lib.hid hws4
  have hgl2 := hwl4.2
  obtain ⟨n, hn⟩ : ∃ n, n = ws.length := ⟨_, rfl⟩
  rw [← hn] at h4 hgl2 j0 j1 j2 j3 ⊢
  have HN := Lib.hid hn
  have h4' : 4 ≤ ws.length := by omega
  have y0 := HR.out.wd 0 (by omega)
  clear hwl4 hws4 hwsD hbl5 hbl4 HBL iw hcell hwc hgl hgB HBX hb4 HWS0 HWL hn hz4
  obtain ⟨y, hy0⟩ : ∃ y, y = nthBA ws 0 := ⟨_, rfl⟩
  rw [← hy0] at y0
  have hyl : y.toList = y.data.toList := ByteArray.toList_eq y
  by_cases hh : y.data.toList = [104, 97, 108, 116]
  · have e1 : (y.toList == [104, 97, 108, 116]) = true := by rw [hyl, hh]; rfl
    have HV : Hid (V = .agg #[.int .i64 3, .int .i64 0, .int .i64 0, .int .i64 0]) := Lib.hid (by
      rw [HV0.out, sOrd_halt (by rw [← HWS.out, List.getElem?_map, List.getElem?_eq_getElem (by omega)]; rw [← hh, hy0]; simp [nthBA, show 0 < ws.length by omega])]; rfl)
    clear hyl hh hy0
    have c0 := HR.out.c0
    have c1 := HR.out.c1
    have c2 := HR.out.c2
    have c3 := HR.out.c3
    obtain ⟨u0, i0⟩ := HR.out.r0
    obtain ⟨u1, i1⟩ := HR.out.r1
    obtain ⟨u2, i2⟩ := HR.out.r2
    obtain ⟨u3, i3⟩ := HR.out.r3
    have f0 := HR.out.rf 0
    have f1 := HR.out.rf 1
    have f2 := HR.out.rf 2
    have f3 := HR.out.rf 3
    have sA := setO4 (w4.alloc (.cells #[.int .i64 3, .int .i64 0, .int .i64 0, .int .i64 0] 60)) w.heap.size (.int .i64 (3)) (.int .i64 (0)) (.int .i64 (0)) (.int .i64 (0)) i0 i1 i2 i3
    go_wp2
    refine bodyPost_ret (v := .agg #[.int .i64 (3), .int .i64 (0), .int .i64 (0), .int .i64 (0)]) (by simp [results, Tryd.results39, go_sem, sA]) rfl ?_
    exact HR.out.ret (by rw [HV.out])
  have e1 : (y.toList == [104, 97, 108, 116]) = false := by rw [hyl]; simpa using hh
  have HV1 := Lib.hid (sOrd_else HWS.out h4' (by rw [← hy0]; exact hh))
  rw [← hy0] at HV1
  by_cases ha : y.data.toList = [97, 100, 100]
  · have e2 : (y.toList == [97, 100, 100]) = true := by rw [hyl, ha]; rfl
    have e3 : (y.toList == [115, 117, 98]) = false := by rw [hyl, ha]; rfl
    have HV : Hid (V = .agg #[.int .i64 1, .int .i64 (num7 (nthBA ws 1).data.toList), .int .i64 (num7 (nthBA ws 2).data.toList), .int .i64 (num7 (nthBA ws 3).data.toList)]) := Lib.hid (by rw [HV0.out, HV1.out, ha]; rfl)
    clear hyl hh ha HV1
    have c0 := HR.out.c0
    have z0 := HR.out.zf 0
    have HX := Lib.hid (HRX.out 1)
    have y9 := HX.out.wd 0 (by omega)
    rw [← hy0] at y9
    clear hy0
    have y1 := HX.out.wd 1 (by omega)
    have C := Lib.hid (l07Number_c (nthBA ws 1) (HSZ.out 1 (by omega)) (w4.alloc (.cells #[.int .i64 1, .int .i64 0, .int .i64 0, .int .i64 0] 60)))
    obtain ⟨n1, hn1⟩ : ∃ n, n = num7 (nthBA ws 1).data.toList := ⟨_, rfl⟩
    rw [← hn1] at HV C
    clear hn1
    go_wp2_with fail
    refine C.out.mono ?_
    rintro e v1 ⟨rfl, hb⟩
    have K1 := Lib.hid (HX.out.below hb)
    clear hb C y1
    have d1 := K1.out.c1
    have f1 := K1.out.zf 1
    have KK1 := Lib.hid (K1.out.set1 n1)
    have y2 := KK1.out.wd 2 (by omega)
    have C := Lib.hid (l07Number_c (nthBA ws 2) (HSZ.out 2 (by omega)) (v1.setCell ⟨w4.heap.size, 1, none⟩ (.int .i64 n1)))
    obtain ⟨n2, hn2⟩ : ∃ n, n = num7 (nthBA ws 2).data.toList := ⟨_, rfl⟩
    rw [← hn2] at HV C
    clear hn2
    go_wp2_with fail
    refine C.out.mono ?_
    rintro e v2 ⟨rfl, hb⟩
    have K2 := Lib.hid (KK1.out.below hb)
    clear hb C y2 d1 f1
    have d2 := K2.out.c2
    have f2 := K2.out.zf 2
    have KK2 := Lib.hid (K2.out.set2 n2)
    have y3 := KK2.out.wd 3 (by omega)
    have C := Lib.hid (l07Number_c (nthBA ws 3) (HSZ.out 3 (by omega)) (v2.setCell ⟨w4.heap.size, 2, none⟩ (.int .i64 n2)))
    obtain ⟨n3, hn3⟩ : ∃ n, n = num7 (nthBA ws 3).data.toList := ⟨_, rfl⟩
    rw [← hn3] at HV C
    clear hn3
    go_wp2_with fail
    refine C.out.mono ?_
    rintro e v3 ⟨rfl, hb⟩
    have K3 := Lib.hid (KK2.out.below hb)
    clear hb C y3 d2 f2
    have d3 := K3.out.c3
    have f3 := K3.out.zf 3
    have KK3 := Lib.hid (K3.out.set3 n3)
    have c0 := KK3.out.c0
    have c1 := KK3.out.c1
    have c2 := KK3.out.c2
    have c3 := KK3.out.c3
    obtain ⟨u0, i0⟩ := KK3.out.r0
    obtain ⟨u1, i1⟩ := KK3.out.r1
    obtain ⟨u2, i2⟩ := KK3.out.r2
    obtain ⟨u3, i3⟩ := KK3.out.r3
    have f0 := KK3.out.rf 0
    have f1 := KK3.out.rf 1
    have f2 := KK3.out.rf 2
    have f3 := KK3.out.rf 3
    have sA := setO4 (v3.setCell ⟨w4.heap.size, 3, none⟩ (.int .i64 n3)) w.heap.size (.int .i64 (1)) (.int .i64 (n1)) (.int .i64 (n2)) (.int .i64 (n3)) i0 i1 i2 i3
    go_wp2
    refine bodyPost_ret (v := .agg #[.int .i64 (1), .int .i64 (n1), .int .i64 (n2), .int .i64 (n3)]) (by simp [results, Tryd.results39, go_sem, sA]) rfl ?_
    exact KK3.out.ret (by rw [HV.out])
  have e2 : (y.toList == [97, 100, 100]) = false := by rw [hyl]; simpa using ha
  by_cases hs' : y.data.toList = [115, 117, 98]
  · have e3 : (y.toList == [115, 117, 98]) = true := by rw [hyl, hs']; rfl
    have HV : Hid (V = .agg #[.int .i64 2, .int .i64 (num7 (nthBA ws 1).data.toList), .int .i64 (num7 (nthBA ws 2).data.toList), .int .i64 (num7 (nthBA ws 3).data.toList)]) := Lib.hid (by rw [HV0.out, HV1.out, hs']; rfl)
    clear hyl hh ha hs' HV1
    have c0 := HR.out.c0
    have z0 := HR.out.zf 0
    have HX := Lib.hid (HRX.out 2)
    clear hy0
    have y1 := HX.out.wd 1 (by omega)
    have C := Lib.hid (l07Number_c (nthBA ws 1) (HSZ.out 1 (by omega)) (w4.alloc (.cells #[.int .i64 2, .int .i64 0, .int .i64 0, .int .i64 0] 60)))
    obtain ⟨n1, hn1⟩ : ∃ n, n = num7 (nthBA ws 1).data.toList := ⟨_, rfl⟩
    rw [← hn1] at HV C
    clear hn1
    go_wp2_with fail
    refine C.out.mono ?_
    rintro e v1 ⟨rfl, hb⟩
    have K1 := Lib.hid (HX.out.below hb)
    clear hb C y1
    have d1 := K1.out.c1
    have f1 := K1.out.zf 1
    have KK1 := Lib.hid (K1.out.set1 n1)
    have y2 := KK1.out.wd 2 (by omega)
    have C := Lib.hid (l07Number_c (nthBA ws 2) (HSZ.out 2 (by omega)) (v1.setCell ⟨w4.heap.size, 1, none⟩ (.int .i64 n1)))
    obtain ⟨n2, hn2⟩ : ∃ n, n = num7 (nthBA ws 2).data.toList := ⟨_, rfl⟩
    rw [← hn2] at HV C
    clear hn2
    go_wp2_with fail
    refine C.out.mono ?_
    rintro e v2 ⟨rfl, hb⟩
    have K2 := Lib.hid (KK1.out.below hb)
    clear hb C y2 d1 f1
    have d2 := K2.out.c2
    have f2 := K2.out.zf 2
    have KK2 := Lib.hid (K2.out.set2 n2)
    have y3 := KK2.out.wd 3 (by omega)
    have C := Lib.hid (l07Number_c (nthBA ws 3) (HSZ.out 3 (by omega)) (v2.setCell ⟨w4.heap.size, 2, none⟩ (.int .i64 n2)))
    obtain ⟨n3, hn3⟩ : ∃ n, n = num7 (nthBA ws 3).data.toList := ⟨_, rfl⟩
    rw [← hn3] at HV C
    clear hn3
    go_wp2_with fail
    refine C.out.mono ?_
    rintro e v3 ⟨rfl, hb⟩
    have K3 := Lib.hid (KK2.out.below hb)
    clear hb C y3 d2 f2
    have d3 := K3.out.c3
    have f3 := K3.out.zf 3
    have KK3 := Lib.hid (K3.out.set3 n3)
    have c0 := KK3.out.c0
    have c1 := KK3.out.c1
    have c2 := KK3.out.c2
    have c3 := KK3.out.c3
    obtain ⟨u0, i0⟩ := KK3.out.r0
    obtain ⟨u1, i1⟩ := KK3.out.r1
    obtain ⟨u2, i2⟩ := KK3.out.r2
    obtain ⟨u3, i3⟩ := KK3.out.r3
    have f0 := KK3.out.rf 0
    have f1 := KK3.out.rf 1
    have f2 := KK3.out.rf 2
    have f3 := KK3.out.rf 3
    have sA := setO4 (v3.setCell ⟨w4.heap.size, 3, none⟩ (.int .i64 n3)) w.heap.size (.int .i64 (2)) (.int .i64 (n1)) (.int .i64 (n2)) (.int .i64 (n3)) i0 i1 i2 i3
    go_wp2
    refine bodyPost_ret (v := .agg #[.int .i64 (2), .int .i64 (n1), .int .i64 (n2), .int .i64 (n3)]) (by simp [results, Tryd.results39, go_sem, sA]) rfl ?_
    exact KK3.out.ret (by rw [HV.out])
  have e3 : (y.toList == [115, 117, 98]) = false := by rw [hyl]; simpa using hs'
  have HV : Hid (V = .agg #[.int .i64 3, .int .i64 (num7 (nthBA ws 1).data.toList), .int .i64 (num7 (nthBA ws 2).data.toList), .int .i64 (num7 (nthBA ws 3).data.toList)]) := Lib.hid (by rw [HV0.out, HV1.out, if_neg hs', if_neg ha]; rfl)
  clear hyl hh ha hs' HV1
  have HX := HR
  clear hy0
  have y1 := HX.out.wd 1 (by omega)
  have C := Lib.hid (l07Number_c (nthBA ws 1) (HSZ.out 1 (by omega)) (w4.alloc (.cells #[.int .i64 3, .int .i64 0, .int .i64 0, .int .i64 0] 60)))
  obtain ⟨n1, hn1⟩ : ∃ n, n = num7 (nthBA ws 1).data.toList := ⟨_, rfl⟩
  rw [← hn1] at HV C
  clear hn1
  go_wp2_with fail
  refine C.out.mono ?_
  rintro e v1 ⟨rfl, hb⟩
  have K1 := Lib.hid (HX.out.below hb)
  clear hb C y1
  have d1 := K1.out.c1
  have f1 := K1.out.zf 1
  have KK1 := Lib.hid (K1.out.set1 n1)
  have y2 := KK1.out.wd 2 (by omega)
  have C := Lib.hid (l07Number_c (nthBA ws 2) (HSZ.out 2 (by omega)) (v1.setCell ⟨w4.heap.size, 1, none⟩ (.int .i64 n1)))
  obtain ⟨n2, hn2⟩ : ∃ n, n = num7 (nthBA ws 2).data.toList := ⟨_, rfl⟩
  rw [← hn2] at HV C
  clear hn2
  go_wp2_with fail
  refine C.out.mono ?_
  rintro e v2 ⟨rfl, hb⟩
  have K2 := Lib.hid (KK1.out.below hb)
  clear hb C y2 d1 f1
  have d2 := K2.out.c2
  have f2 := K2.out.zf 2
  have KK2 := Lib.hid (K2.out.set2 n2)
  have y3 := KK2.out.wd 3 (by omega)
  have C := Lib.hid (l07Number_c (nthBA ws 3) (HSZ.out 3 (by omega)) (v2.setCell ⟨w4.heap.size, 2, none⟩ (.int .i64 n2)))
  obtain ⟨n3, hn3⟩ : ∃ n, n = num7 (nthBA ws 3).data.toList := ⟨_, rfl⟩
  rw [← hn3] at HV C
  clear hn3
  go_wp2_with fail
  refine C.out.mono ?_
  rintro e v3 ⟨rfl, hb⟩
  have K3 := Lib.hid (KK2.out.below hb)
  clear hb C y3 d2 f2
  have d3 := K3.out.c3
  have f3 := K3.out.zf 3
  have KK3 := Lib.hid (K3.out.set3 n3)
  have c0 := KK3.out.c0
  have c1 := KK3.out.c1
  have c2 := KK3.out.c2
  have c3 := KK3.out.c3
  obtain ⟨u0, i0⟩ := KK3.out.r0
  obtain ⟨u1, i1⟩ := KK3.out.r1
  obtain ⟨u2, i2⟩ := KK3.out.r2
  obtain ⟨u3, i3⟩ := KK3.out.r3
  have f0 := KK3.out.rf 0
  have f1 := KK3.out.rf 1
  have f2 := KK3.out.rf 2
  have f3 := KK3.out.rf 3
  have sA := setO4 (v3.setCell ⟨w4.heap.size, 3, none⟩ (.int .i64 n3)) w.heap.size (.int .i64 (3)) (.int .i64 (n1)) (.int .i64 (n2)) (.int .i64 (n3)) i0 i1 i2 i3
  go_wp2
  refine bodyPost_ret (v := .agg #[.int .i64 (3), .int .i64 (n1), .int .i64 (n2), .int .i64 (n3)]) (by simp [results, Tryd.results39, go_sem, sA]) rfl ?_
  exact KK3.out.ret (by rw [HV.out])
end Go.Proofs.YtbnikblhnibgiaaDoor
