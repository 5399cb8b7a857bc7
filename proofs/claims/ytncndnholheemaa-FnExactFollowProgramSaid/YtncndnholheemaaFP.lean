/- The choices by which a cell follows a program: the program's function. Written by mkfp.py. -/
import Derived.Test.YtncndnholheemaaFR
import Derived.Test.YtncndnholheemaaBW
namespace Go.Proofs.Ytncndnholheemaa
open Go.RowKit

/-- What lies still while a program is followed. -/
structure FolR (R : Nat) (ao : Option Addr) (co : Nat) (os : List Ord) (mode : Int) (bp bm bb gb : Nat) (ar af : Option Addr) (M cr cf : Nat) (fs : List Int) (w : World) : Prop where
  p0 : w.cell? ⟨bp, 0, none⟩ = some (.int .i64 R)
  p1 : w.cell? ⟨bp, 1, none⟩ = some (.slice ao os.length co)
  so : SlO Any w ao os
  m0 : w.cell? ⟨bm, 0, none⟩ = some (.int .i64 mode)
  b0 : w.cell? ⟨bb, 0, none⟩ = some (.pointer (some ⟨gb, 0, none⟩))
  g1 : w.cell? ⟨gb, 1, none⟩ = some (.slice ar M cr)
  g2 : w.cell? ⟨gb, 2, none⟩ = some (.slice af fs.length cf)
  sf : SlI Any w af fs
/-- The list of choices, in the block bx. -/
structure FolS (E : TypeId) (wx wr : World) (bx B : Nat) (G0 : List Nat) (L : List (List Int)) (v : Value) (G : List Nat) : Prop where
  cell : wr.cell? ⟨bx, 0, none⟩ = some v
  free : wr.frozen? ⟨bx, 0, none⟩ = false
  lst : Lst E 1 wr B v L.length (L.map dI) G
  chg : Chg (bx :: G0) wx wr
  new : ∀ g, g ∈ G → g ∈ G0 ∨ wx.heap.size ≤ g
  hx : bx < wx.heap.size
  nx : bx ∉ G0
theorem FolS.keep {E : TypeId} {wx wr w' : World} {bx B : Nat} {G0 : List Nat} {L : List (List Int)} {v : Value} {G : List Nat} (h : FolS E wx wr bx B G0 L v G) (hb : Below wr.heap.size wr w') : FolS E wx w' bx B G0 L v G :=
  have hl : bx < wr.heap.size := Nat.lt_of_lt_of_le h.hx h.chg.size
  ⟨(bcell1 hb hl).trans h.cell, (bfroz1 hb hl).trans h.free, h.lst.below hb, h.chg.trans (Chg.ofBelow hb), h.new, h.hx, h.nx⟩
theorem FolS.out {E : TypeId} {wx wr : World} {bx B : Nat} {G0 : List Nat} {L : List (List Int)} {v : Value} {G : List Nat} (h : FolS E wx wr bx B G0 L v G) : bx ∉ G := fun e => by
  rcases h.new _ e with h1 | h1
  · exact h.nx h1
  · have := h.hx; omega
theorem FolS.next {E : TypeId} {wx wr w7 w8 : World} {bx B : Nat} {G0 : List Nat} {L : List (List Int)} {v v' : Value} {G F2 G' : List Nat} {x : List Int} (h : FolS E wx wr bx B G0 L v G) (h7 : Below wr.heap.size wr w7) (hN : LstNext E 1 w7 w8 B v v' L.length (L.map dI) [dI x] G F2 G') (hF : ∀ g, g ∈ F2 → wr.heap.size ≤ g) :
    w8.frozen? ⟨bx, 0, none⟩ = false ∧ (∃ u, w8.cell? ⟨bx, 0, none⟩ = some u) ∧ FolS E wx (w8.setCell ⟨bx, 0, none⟩ v') bx B G0 (L ++ [x]) v' G' := by
  have h1 := h.keep h7
  have hz : wx.heap.size ≤ wr.heap.size := h.chg.size
  have hz7 : wr.heap.size ≤ w7.heap.size := h7.size
  have hl : bx < w7.heap.size := Nat.lt_of_lt_of_le h.hx (by omega)
  have hbo : bx ∉ ob v := fun e => h1.out (ob_sub h1.lst _ e)
  have c8 : w8.cell? ⟨bx, 0, none⟩ = some v := (hN.chg.cell hl hbo 0).trans h1.cell
  have f8 : w8.frozen? ⟨bx, 0, none⟩ = false := (hN.chg.frozen hl hbo 0).trans h1.free
  have hnew : ∀ g, g ∈ G' → g ∈ G0 ∨ wx.heap.size ≤ g := fun g hg => by
    rcases hN.mem g hg with e | e | e
    · exact h.new g e
    · have := hF g e; right; omega
    · right; omega
  have hbn : bx ∉ G' := fun e => by
    rcases hnew _ e with h2 | h2
    · exact h.nx h2
    · have := h.hx; omega
  have hl2 := hN.lst
  refine ⟨f8, ⟨v, c8⟩, World.cell?_setCell_same _ _ _ c8, by rw [World.frozen?_setCell]; exact f8, ?_, ?_, hnew, h.hx, h.nx⟩
  · have hk := hl2.keep (chg_set w8 ⟨bx, 0, none⟩ v' [bx] (by simp)) (fun g hg e => by simp at e; subst e; exact hbn hg)
    have e1 : L.map dI ++ [dI x] = (L ++ [x]).map dI := by simp
    rw [e1] at hk
    simpa using hk
  · have hc : Chg (bx :: G0) wx w8 := h1.chg.compG hN.chg (fun g hg => by
      rcases h1.new g (ob_sub h1.lst _ hg) with e | e
      · exact .inl (by simp [e])
      · exact .inr e)
    exact hc.trans (chg_set w8 ⟨bx, 0, none⟩ v' (bx :: G0) (by simp))
theorem Bld.atN {E : Nat} {w : World} {B g n c : Nat} {xs : List Int} (h : Bld E w B (.slice (some ⟨g, 0, none⟩) n c) (xs.map (.int .i64))) {i : Nat} (hi : i < xs.length) : w.cell? ⟨g, i, none⟩ = some (.int .i64 (nth xs i)) := by
  refine h.cell ?_
  rw [List.getElem?_map, List.getElem?_eq_getElem hi, ← nth_lt hi]; rfl
theorem Bld.setN {E : Nat} {w : World} {B g n c : Nat} {xs : List Int} (h : Bld E w B (.slice (some ⟨g, 0, none⟩) n c) (xs.map (.int .i64))) (i : Nat) (x : Int) : Bld E (w.setCell ⟨g, i, none⟩ (.int .i64 x)) B (.slice (some ⟨g, 0, none⟩) n c) ((xs.set i x).map (.int .i64)) := by
  have := h.set i (.int .i64 x)
  rwa [← List.map_set] at this
theorem firstTo_at (R : Nat) (os : List Ord) (mode : Int) (K n i : Nat) (h : i < n) : nth (firstTo R os mode K n) i = ((rulesTo R os mode K i).length : Int) := by
  rw [nth_lt (by rw [firstTo_len]; exact h)]; simp [firstTo]
set_option maxHeartbeats 8000000 in
set_option maxRecDepth 100000 in
theorem fol_c (R : Nat) (ao : Option Addr) (co : Nat) (os : List Ord) (mode : Int) (bp bm bb gb bx B : Nat) (ar af : Option Addr) (cr cf : Nat) (G0 : List Nat) (L : List (List Int)) (v : Value) (G : List Nat) (cc : Cfg) (ac : Option Addr) (ca : Nat) (w0 w : World) (hpg : PgOk R os)
    (hs : FolS 24 w0 w bx B G0 L v G) (hB : B ≤ w.heap.size) (hL : L.length ≤ 1000)
    (hro : ∀ wz, Chg (bx :: G0) w0 wz → FolR R ao co os mode bp bm bb gb ar af (rulesS R os mode).length cr cf (firstTo R os mode (kindsN R os mode) os.length) wz)
    (hx : SlI Any w ac cc.regs) (hcf : confOk R os.length cc.pc cc.regs = true) (hh : haltS os cc.pc = false) (_hm : 1 ≤ mode ∧ mode ≤ 3) :
    Calls Try.prog 93 #[.agg #[.int .i64 cc.pc, .slice ac cc.regs.length ca], .pointer (some ⟨bp, 0, none⟩), .pointer (some ⟨bm, 0, none⟩), .pointer (some ⟨bb, 0, none⟩), .pointer (some ⟨bx, 0, none⟩)] w (fun e w' => e = .returned (.tuple #[]) ∧ ∃ v' G', FolS 24 w0 w' bx B G0 (L ++ folC R os mode cc) v' G' ∧ Chg (bx :: G) w w' ∧ ∀ g, g ∈ G' → g ∈ G ∨ w.heap.size ≤ g) := by
  have hP : 0 ≤ cc.pc ∧ cc.pc ≤ os.length := by simp [confOk, inRg] at hcf; omega
  have hne : cc.pc ≠ os.length ∧ (nthO os cc.pc.toNat).op ≠ 3 := by simp [haltS] at hh; exact hh
  have hlt : cc.pc < os.length := by omega
  have hi : cc.pc.toNat < os.length := by omega
  have hord := hpg.at hi
  have hop : (nthO os cc.pc.toNat).op = 1 ∨ (nthO os cc.pc.toNat).op = 2 := by omega
  have hrl := (regsOk_ok (R := (R : Int)) (regs := cc.regs) (by simp only [confOk, Bool.and_eq_true] at hcf; exact hcf.2)).1
  have hM : (rulesS R os mode).length ≤ 25 := by have := rulesS_len R os mode; have := hpg.n6; omega
  have hro0 := hro w hs.chg
  have P1 := hro0.p1
  have M0 := hro0.m0
  have hzp : bp < w.heap.size := World.block_lt_of_cell? w _ P1
  have hzm : bm < w.heap.size := World.block_lt_of_cell? w _ M0
  have t0 := hro0.so.c0 cc.pc.toNat hi
  have t1 := hro0.so.c1 cc.pc.toNat hi
  have t2 := hro0.so.c2 cc.pc.toNat hi
  have t3 := hro0.so.c3 cc.pc.toNat hi
  have hr : (0 : Int) ≤ (nthO os cc.pc.toNat).reg ∧ (nthO os cc.pc.toNat).reg < cc.regs.length := by omega
  have g1 := hx.cell (nthO os cc.pc.toNat).reg.toNat (by omega)
  have i0 := fun w' => ixO hro0.so co cc.pc w' hP.1 hlt
  have i1 := fun w' => hx.ix tabI.under tabI.size ca (nthO os cc.pc.toNat).reg w' hr.1 hr.2
  have HOF := Lib.hid (fun k hk => off_lt (R := R) (mode := mode) hi hop (nth cc.regs (nthO os cc.pc.toNat).reg.toNat) k hk)
  have HFC : Hid (folC R os mode cc = (offS (nthO os cc.pc.toNat) mode (nth cc.regs (nthO os cc.pc.toNat).reg.toNat)).map fun k => vecS (rulesS R os mode).length (baseS R os mode cc.pc.toNat + k.toNat)) := Lib.hid rfl
  have HFT := Lib.hid (firstTo_at R os mode (kindsN R os mode) os.length cc.pc.toNat hi)
  have HFL := Lib.hid (firstTo_len R os mode (kindsN R os mode) os.length)
  have HS := Lib.hid hs
  have HRO := Lib.hid hro
  have HBB := Lib.hid hB
  have HLL := Lib.hid hL
  have HSZ : Hid (w0.heap.size ≤ w.heap.size) := Lib.hid hs.chg.size
  obtain ⟨pn, hpn⟩ : ∃ n : Nat, n = cc.pc.toNat := ⟨_, rfl⟩
  have hpc : cc.pc = (pn : Int) := by omega
  obtain ⟨ord, hord2⟩ : ∃ x, x = nthO os cc.pc.toNat := ⟨_, rfl⟩
  rw [← hord2] at t0 t1 t2 t3 hr g1 i1 HOF HFC hop
  obtain ⟨x, hxr⟩ : ∃ x, x = nth cc.regs ord.reg.toNat := ⟨_, rfl⟩
  rw [← hxr] at g1 HOF HFC
  obtain ⟨M, hMM⟩ : ∃ M, M = (rulesS R os mode).length := ⟨_, rfl⟩
  rw [← hMM] at hM HOF HFC HRO
  obtain ⟨base, hbase⟩ : ∃ b, b = baseS R os mode cc.pc.toNat := ⟨_, rfl⟩
  rw [← hbase] at HOF HFC
  have HFB : Hid (nth (firstTo R os mode (kindsN R os mode) os.length) cc.pc.toNat = (base : Int)) := Lib.hid (by rw [HFT.out, hbase]; rfl)
  obtain ⟨fs, hfs⟩ : ∃ l, l = firstTo R os mode (kindsN R os mode) os.length := ⟨_, rfl⟩
  rw [← hfs] at HRO HFB HFL
  obtain ⟨oplen, hol⟩ : ∃ n, n = os.length := ⟨_, rfl⟩
  clear hs hro hro0 hcf hh hne hord hord2 hpg hxr hMM hbase hfs HFT hx hB hL
  rw [hpc, Int.toNat_natCast] at t0 t1 t2 t3 HFB hi
  rw [hpc] at i0 hP hlt ⊢
  simp only [Int.toNat_natCast] at i0
  clear hpn hol oplen
  have u0 := fun O => ((below_alloc w O).cell (World.block_lt_of_cell? w _ t0)).trans t0
  have u1 := fun O => ((below_alloc w O).cell (World.block_lt_of_cell? w _ t1)).trans t1
  have u2 := fun O => ((below_alloc w O).cell (World.block_lt_of_cell? w _ t2)).trans t2
  have u3 := fun O => ((below_alloc w O).cell (World.block_lt_of_cell? w _ t3)).trans t3
  have y1 := fun O1 O2 O3 => ((below_al (below_al (below_alloc w O1) O2) O3).cell (World.block_lt_of_cell? w _ g1)).trans g1
  have y2 := fun O1 O2 O3 => (bcell1 (i := 0) (below_al (below_al (below_alloc w O1) O2) O3) hzm).trans M0
  clear t0 t1 t2 t3 g1 M0
  by_cases c1 : ord.op = 2
  · by_cases c2 : x = 0
    · by_cases c3 : mode = 3
      · have HKS : Hid (offS ord mode x = [1, 2]) := Lib.hid (by simp [offS, c1, c2, c3])
        go_enter Try.func93, Try.ntmps93
        go_wp2
        obtain ⟨wD, hwD⟩ : ∃ wz, wz = (((w.alloc (.cells #[.int .i64 (pn : Int), .slice ac cc.regs.length ca] 68)).alloc (.cells #[.int .i64 2, .int .i64 ord.reg, .int .i64 ord.to, .int .i64 ord.els] 125)).alloc (.cells #[.int .i64 0] 2)).alloc (.cells #[.int .i64 1, .int .i64 2] 2) := ⟨_, rfl⟩
        rw [← hwD]
        have hbD : Below w.heap.size w wD := by rw [hwD]; exact below_al (below_al (below_al (below_alloc _ _) _) _) _
        have hcD : wD.cell? ⟨w.heap.size, 0, none⟩ = some (.int .i64 (pn : Int)) := by rw [hwD]; simp [go_sem]
        have hSD : SlI Any wD (some ⟨w.heap.size + 3, 0, none⟩) ([1, 2] : List Int) := SlI.two (by rw [hwD]; simp [go_sem]) (by rw [hwD]; simp [go_sem])
        have hzD : w.heap.size + 3 < wD.heap.size := by rw [hwD]; simp
        have i3 := ix_of (P := Try.prog) tabI.under tabI.size (a := some ⟨w.heap.size + 3, 0, none⟩) (n := 2) (fun _ => ⟨w.heap.size + 3, 0, rfl⟩) 2
        simp only [Nat.mul_one, adr, blk, ofs, Nat.zero_add] at i3
        have HBD := Lib.hid hbD
        have HSD := Lib.hid hSD
        have HCD := Lib.hid hcD
        have HS0 := Lib.hid (HS.out.keep hbD)
        clear hwD hbD hSD hcD i0 i1 u0 u1 u2 u3 y1 y2 P1
        go_loopw [9, 10, 52] (fun _ _ i wr => ∃ (k : Nat) (v2 : Value) (G2 : List Nat), k ≤ 2 ∧ i = .int .i64 k ∧ Hid (FolS 24 w0 wr bx B G0 (L ++ (([1, 2] : List Int).map fun k => vecS M (base + k.toNat)).take k) v2 G2) ∧ Hid (Chg (bx :: G) wD wr) ∧ Hid (∀ g, g ∈ G2 → g ∈ G ∨ wD.heap.size ≤ g)) (fun _ _ i _ => 2 - (intOf i).toNat)
        case atStart => exact ⟨0, v, G, Nat.zero_le _, rfl, by simpa using HS0, Lib.hid (Chg.refl _ _), Lib.hid fun g hg => .inl hg⟩
        case round =>
          obtain ⟨k, v2, G2, hk, rfl, HR, HC, HG⟩ := hrel
          have hzr : w.heap.size + 3 < wr.heap.size := by have := HC.out.size; omega
          have hnx : ∀ b, w.heap.size ≤ b → b < wD.heap.size → b ∉ bx :: G := fun b h1 h2 e => by
            have hxl : bx < w.heap.size := Nat.lt_of_lt_of_le HS.out.hx HSZ.out
            rcases List.mem_cons.1 e with e | e
            · omega
            · have := (HS.out.lst.lt _ e).2; omega
          by_cases hlt2 : k < 2
          · have hkt : (k : Int) < 2 := by omega
            have hro := HRO.out wr HR.out.chg
            have B0 := hro.b0
            have G1 := hro.g1
            have G2' := hro.g2
            have hzb : bb < wr.heap.size := World.block_lt_of_cell? wr _ B0
            have hzg : gb < wr.heap.size := World.block_lt_of_cell? wr _ G1
            have F1 := hro.sf.cell pn (by rw [HFL.out]; exact hi)
            rw [HFB.out] at F1
            have hzf := World.block_lt_of_cell? wr _ F1
            have i4 := fun w' => hro.sf.ix tabI.under tabI.size cf (pn : Int) w' (by omega) (by rw [HFL.out]; exact hlt)
            simp only [Int.toNat_natCast] at i4
            have CD := (HC.out.cell (b := w.heap.size) (by omega) (hnx _ (by omega) (by omega)) 0).trans HCD.out
            have hge : nth ([1, 2] : List Int) k ∈ ([1, 2] : List Int) := by rw [nth_lt (show k < ([1, 2] : List Int).length from hlt2)]; exact List.getElem_mem hlt2
            have hof := HOF.out _ (by rw [HKS.out]; exact hge)
            obtain ⟨kk, hkk⟩ : ∃ m : Nat, nth ([1, 2] : List Int) k = (m : Int) := ⟨(nth ([1, 2] : List Int) k).toNat, by omega⟩
            rw [hkk, Int.toNat_natCast] at hof
            have K1 : wr.cell? ⟨w.heap.size + 3, k, none⟩ = some (.int .i64 (kk : Int)) := by
              rw [HC.out.cell (b := w.heap.size + 3) (by omega) (hnx _ (by omega) (by omega)) k, ← hkk]
              have := HSD.out.cell k hlt2
              simpa [adr, blk, ofs] using this
            have HNX : Hid ((L ++ (([1, 2] : List Int).map fun k => vecS M (base + k.toNat)).take k) ++ [vecS M (base + kk)] = L ++ (([1, 2] : List Int).map fun k => vecS M (base + k.toNat)).take (k + 1)) := Lib.hid (by
              rw [List.append_assoc, List.take_succ_eq_append_getElem (by simpa using hlt2), List.getElem_map]
              have e2 : ([1, 2] : List Int)[k]'hlt2 = (kk : Int) := by rw [← hkk, nth_lt hlt2]
              rw [e2, Int.toNat_natCast])
            obtain ⟨_, av, cv, rfl⟩ := HR.out.lst.val
            have X0 := HR.out.cell
            have Y0 := HR.out.free
            have hxl : bx < wr.heap.size := World.block_lt_of_cell? wr _ X0
            obtain ⟨LL, hLL⟩ : ∃ l, l = L ++ (([1, 2] : List Int).map fun k => vecS M (base + k.toNat)).take k := ⟨_, rfl⟩
            have hLs : LL.length ≤ 1002 := by rw [hLL, List.length_append, List.length_take]; have := HLL.out; simp; omega
            rw [← hLL] at HR HNX X0
            obtain ⟨nl, hnl⟩ : ∃ n, n = LL.length := ⟨_, rfl⟩
            rw [← hnl] at X0 hLs
            have HNL := Lib.hid hnl
            clear hro hge hLL hnl
            go_wp2_with (at_make; refine make_one rfl _ _ 24 rfl tabI rfl (by decide) M _ _ rfl rfl rfl rfl (by omega) wr.heap.size (Nat.le_refl _) ?_)
            intro w5 hbl5 hb5 hz5
            replace B0 := (bcell1 hb5 hzb).trans B0
            replace G1 := (bcell1 hb5 hzg).trans G1
            replace G2' := (bcell1 hb5 hzg).trans G2'
            replace F1 := (hb5.cell hzf).trans F1
            replace CD := (bcell1 hb5 (by omega)).trans CD
            replace X0 := (bcell1 hb5 hxl).trans X0
            replace Y0 := (bfroz1 hb5 hxl).trans Y0
            have i5 := ix_of (P := Try.prog) tabI.under tabI.size (a := some ⟨wr.heap.size, 0, none⟩) (n := M) (fun _ => ⟨wr.heap.size, 0, rfl⟩) M
            simp only [Nat.mul_one, adr, blk, ofs, Nat.zero_add] at i5
            have i6 := fun w' => i5 ((base : Int) + (kk : Int)) w' (by omega) (by omega)
            rw [show ((base : Int) + (kk : Int)).toNat = base + kk by omega] at i6
            have hwA : IntKind.i64.wrap ((base : Int) + (kk : Int)) = (base : Int) + (kk : Int) := by rw [wrap_64]; unfold wrap64; omega
            have hbl5' : Bld 2 w5 wr.heap.size (.slice (some ⟨wr.heap.size, 0, none⟩) M M) ((List.replicate M (0 : Int)).map (.int .i64)) := by rw [List.map_replicate]; exact hbl5
            have x1 := hbl5'.atN (i := base + kk) (by simp; omega)
            have x2 := hbl5'.free (base + kk)
            have HBL5 := Lib.hid hbl5'
            have HB5 := Lib.hid hb5
            clear hbl5 hbl5' hb5 i5
            go_wp2
            go_region
            all_goals
              clear x1 x2 i6
              obtain ⟨w7, hw7⟩ : ∃ wz, wz = (w5.setCell ⟨wr.heap.size, base + kk, none⟩ (.int .i64 1)).drew := ⟨_, rfl⟩
              rw [← hw7]
              have hbl7 : Bld 2 w7 wr.heap.size (.slice (some ⟨wr.heap.size, 0, none⟩) M M) ((vecS M (base + kk)).map (.int .i64)) := by rw [hw7]; exact (HBL5.out.setN (base + kk) 1).below (Below.refl _ _).drew
              have hb57 : Below wr.heap.size w5 w7 := by rw [hw7]; exact ((Below.refl wr.heap.size w5).setCell (by exact Nat.le_refl _) _).drew
              have hb7 : Below wr.heap.size wr w7 := HB5.out.trans hb57
              have X7 := (bcell1 hb57 hxl).trans X0
              have Y7 := (bfroz1 hb57 hxl).trans Y0
              obtain ⟨ap, cp2, Fp, ep, hop2, hnp, hfp⟩ := hbl7.ow (by rw [vecS_len]; unfold maxLen; omega)
              rw [vecS_len] at ep hop2
              cases ep
              have hz7 : wr.heap.size < w7.heap.size := by have := hb57.size; omega
              have HLS := Lib.hid (HR.out.lst.below hb7)
              have HOP := Lib.hid hop2
              have HFP := Lib.hid hfp
              have HB7 := Lib.hid hb7
              have HLT := Lib.hid HR.out.lst.lt
              clear hw7 hbl7 hb57 hb7 hop2 hfp X0 Y0 CD F1 B0 G1 G2'
              go_wp2_with (at_builtin; refine app_lst rfl _ _ 29 rfl tabII rfl (by omega) (by decide) B _ LL.length (LL.map dI) [dI (vecS M (base + kk))] G2 Fp [.slice (some ⟨wr.heap.size, 0, none⟩) M M] rfl (by first | exact HLS.out.below (below_alloc _ _) | (rw [HNL.out]; exact HLS.out.below (below_alloc _ _))) w7.heap.size rfl ⟨⟨Fp, [], HOP.out.below (below_alloc _ _), rfl, by simp⟩, rfl, hnp, fun x hx => by have := HFP.out x hx; have := HBB.out; omega, fun x hx hg => (by have h9 : wr.heap.size ≤ x := HFP.out x hx; have := (HLT.out x hg).2; omega), (fun j u hu => by match j, hu with | 0, hu => (simp at hu; subst hu; simp)), by simp [Value.oneCell']⟩ (by first | omega | (rw [← HNL.out]; omega)) (by have := HBB.out; first | omega | (simp; omega)) ?_)
              intro v3 w8 G4 hN
              obtain ⟨_, a3, c3, rfl⟩ := hN.lst.val
              have hF2 : ∀ g, g ∈ Fp → wr.heap.size ≤ g := HFP.out
              obtain ⟨f8, ⟨u8, c8⟩, hS9⟩ := FolS.next HR.out (HB7.out.trans ((below_alloc w7 _).mono (by omega))) (by first | exact hN | (rw [HNL.out] at hN; exact hN)) hF2
              have HS9 : Hid (FolS 24 w0 (w8.setCell ⟨bx, 0, none⟩ (.slice a3 (LL.length + 1) c3)) bx B G0 (L ++ (([1, 2] : List Int).map fun k => vecS M (base + k.toNat)).take (k + 1)) (.slice a3 (LL.length + 1) c3) G4) := Lib.hid (by rw [← HNX.out]; exact hS9)
              have hob : ∀ g, g ∈ ob (.slice av nl cv) → g ∈ G2 := by rw [HNL.out]; exact ob_sub HR.out.lst
              have hzD2 : wD.heap.size ≤ wr.heap.size := HC.out.size
              have HC9 : Hid (Chg (bx :: G) wD (w8.setCell ⟨bx, 0, none⟩ (.slice a3 (LL.length + 1) c3))) := Lib.hid (((HC.out.trans (Chg.ofBelow (HB7.out.trans ((below_alloc w7 (.cells #[.slice (some ⟨wr.heap.size, 0, none⟩) M M] 24)).mono (by omega))))).compG hN.chg (fun g hg => by
                rcases HG.out g (hob g hg) with e | e
                · exact .inl (by simp [e])
                · exact .inr e)).trans (chg_set w8 ⟨bx, 0, none⟩ _ (bx :: G) (by simp)))
              have HG9 : Hid (∀ g, g ∈ G4 → g ∈ G ∨ wD.heap.size ≤ g) := Lib.hid (fun g hg => by
                rcases hN.mem g hg with e | e | e
                · exact HG.out g e
                · have := hF2 g e; exact .inr (by omega)
                · simp at e; exact .inr (by omega))
              clear hN hS9 hF2 hob
              go_wp2
              go_roundw
              case rel => first | exact ⟨k + 1, _, G4, by omega, by go_num, HS9, HC9, HG9⟩ | ((repeat apply Exists.intro); refine ⟨?_, rfl⟩; exact ⟨k + 1, _, G4, by omega, by go_num, HS9, HC9, HG9⟩)
              case measure => simp [intOf]; omega
          · obtain rfl : k = 2 := by omega
            have HFIN : Hid (FolS 24 w0 wr bx B G0 (L ++ folC R os mode cc) v2 G2) := Lib.hid (by rw [HFC.out, HKS.out]; exact HR.out)
            go_wp2
            go_end0
            exact ⟨rfl, v2, G2, HFIN.out, (Chg.ofBelow HBD.out).trans HC.out, fun g hg => by
              have := HBD.out.size
              rcases HG.out g hg with e | e
              · exact .inl e
              · exact .inr (by omega)⟩
      · have HKS : Hid (offS ord mode x = [1]) := Lib.hid (by simp [offS, c1, c2, c3])
        have b3 : (mode == 3) = false := by simpa using c3
        go_enter Try.func93, Try.ntmps93
        go_wp2
        obtain ⟨wD, hwD⟩ : ∃ wz, wz = (((w.alloc (.cells #[.int .i64 (pn : Int), .slice ac cc.regs.length ca] 68)).alloc (.cells #[.int .i64 2, .int .i64 ord.reg, .int .i64 ord.to, .int .i64 ord.els] 125)).alloc (.cells #[.int .i64 0] 2)).alloc (.cells #[.int .i64 1] 2) := ⟨_, rfl⟩
        rw [← hwD]
        have hbD : Below w.heap.size w wD := by rw [hwD]; exact below_al (below_al (below_al (below_alloc _ _) _) _) _
        have hcD : wD.cell? ⟨w.heap.size, 0, none⟩ = some (.int .i64 (pn : Int)) := by rw [hwD]; simp [go_sem]
        have hSD : SlI Any wD (some ⟨w.heap.size + 3, 0, none⟩) ([1] : List Int) := SlI.one (by rw [hwD]; simp [go_sem])
        have hzD : w.heap.size + 3 < wD.heap.size := by rw [hwD]; simp
        have i3 := ix_of (P := Try.prog) tabI.under tabI.size (a := some ⟨w.heap.size + 3, 0, none⟩) (n := 1) (fun _ => ⟨w.heap.size + 3, 0, rfl⟩) 1
        simp only [Nat.mul_one, adr, blk, ofs, Nat.zero_add] at i3
        have HBD := Lib.hid hbD
        have HSD := Lib.hid hSD
        have HCD := Lib.hid hcD
        have HS0 := Lib.hid (HS.out.keep hbD)
        clear hwD hbD hSD hcD i0 i1 u0 u1 u2 u3 y1 y2 P1
        go_loopw [9, 10, 52] (fun _ _ i wr => ∃ (k : Nat) (v2 : Value) (G2 : List Nat), k ≤ 1 ∧ i = .int .i64 k ∧ Hid (FolS 24 w0 wr bx B G0 (L ++ (([1] : List Int).map fun k => vecS M (base + k.toNat)).take k) v2 G2) ∧ Hid (Chg (bx :: G) wD wr) ∧ Hid (∀ g, g ∈ G2 → g ∈ G ∨ wD.heap.size ≤ g)) (fun _ _ i _ => 1 - (intOf i).toNat)
        case atStart => exact ⟨0, v, G, Nat.zero_le _, rfl, by simpa using HS0, Lib.hid (Chg.refl _ _), Lib.hid fun g hg => .inl hg⟩
        case round =>
          obtain ⟨k, v2, G2, hk, rfl, HR, HC, HG⟩ := hrel
          have hzr : w.heap.size + 3 < wr.heap.size := by have := HC.out.size; omega
          have hnx : ∀ b, w.heap.size ≤ b → b < wD.heap.size → b ∉ bx :: G := fun b h1 h2 e => by
            have hxl : bx < w.heap.size := Nat.lt_of_lt_of_le HS.out.hx HSZ.out
            rcases List.mem_cons.1 e with e | e
            · omega
            · have := (HS.out.lst.lt _ e).2; omega
          by_cases hlt2 : k < 1
          · have hkt : (k : Int) < 1 := by omega
            have hro := HRO.out wr HR.out.chg
            have B0 := hro.b0
            have G1 := hro.g1
            have G2' := hro.g2
            have hzb : bb < wr.heap.size := World.block_lt_of_cell? wr _ B0
            have hzg : gb < wr.heap.size := World.block_lt_of_cell? wr _ G1
            have F1 := hro.sf.cell pn (by rw [HFL.out]; exact hi)
            rw [HFB.out] at F1
            have hzf := World.block_lt_of_cell? wr _ F1
            have i4 := fun w' => hro.sf.ix tabI.under tabI.size cf (pn : Int) w' (by omega) (by rw [HFL.out]; exact hlt)
            simp only [Int.toNat_natCast] at i4
            have CD := (HC.out.cell (b := w.heap.size) (by omega) (hnx _ (by omega) (by omega)) 0).trans HCD.out
            have hge : nth ([1] : List Int) k ∈ ([1] : List Int) := by rw [nth_lt (show k < ([1] : List Int).length from hlt2)]; exact List.getElem_mem hlt2
            have hof := HOF.out _ (by rw [HKS.out]; exact hge)
            obtain ⟨kk, hkk⟩ : ∃ m : Nat, nth ([1] : List Int) k = (m : Int) := ⟨(nth ([1] : List Int) k).toNat, by omega⟩
            rw [hkk, Int.toNat_natCast] at hof
            have K1 : wr.cell? ⟨w.heap.size + 3, k, none⟩ = some (.int .i64 (kk : Int)) := by
              rw [HC.out.cell (b := w.heap.size + 3) (by omega) (hnx _ (by omega) (by omega)) k, ← hkk]
              have := HSD.out.cell k hlt2
              simpa [adr, blk, ofs] using this
            have HNX : Hid ((L ++ (([1] : List Int).map fun k => vecS M (base + k.toNat)).take k) ++ [vecS M (base + kk)] = L ++ (([1] : List Int).map fun k => vecS M (base + k.toNat)).take (k + 1)) := Lib.hid (by
              rw [List.append_assoc, List.take_succ_eq_append_getElem (by simpa using hlt2), List.getElem_map]
              have e2 : ([1] : List Int)[k]'hlt2 = (kk : Int) := by rw [← hkk, nth_lt hlt2]
              rw [e2, Int.toNat_natCast])
            obtain ⟨_, av, cv, rfl⟩ := HR.out.lst.val
            have X0 := HR.out.cell
            have Y0 := HR.out.free
            have hxl : bx < wr.heap.size := World.block_lt_of_cell? wr _ X0
            obtain ⟨LL, hLL⟩ : ∃ l, l = L ++ (([1] : List Int).map fun k => vecS M (base + k.toNat)).take k := ⟨_, rfl⟩
            have hLs : LL.length ≤ 1002 := by rw [hLL, List.length_append, List.length_take]; have := HLL.out; simp; omega
            rw [← hLL] at HR HNX X0
            obtain ⟨nl, hnl⟩ : ∃ n, n = LL.length := ⟨_, rfl⟩
            rw [← hnl] at X0 hLs
            have HNL := Lib.hid hnl
            clear hro hge hLL hnl
            go_wp2_with (at_make; refine make_one rfl _ _ 24 rfl tabI rfl (by decide) M _ _ rfl rfl rfl rfl (by omega) wr.heap.size (Nat.le_refl _) ?_)
            intro w5 hbl5 hb5 hz5
            replace B0 := (bcell1 hb5 hzb).trans B0
            replace G1 := (bcell1 hb5 hzg).trans G1
            replace G2' := (bcell1 hb5 hzg).trans G2'
            replace F1 := (hb5.cell hzf).trans F1
            replace CD := (bcell1 hb5 (by omega)).trans CD
            replace X0 := (bcell1 hb5 hxl).trans X0
            replace Y0 := (bfroz1 hb5 hxl).trans Y0
            have i5 := ix_of (P := Try.prog) tabI.under tabI.size (a := some ⟨wr.heap.size, 0, none⟩) (n := M) (fun _ => ⟨wr.heap.size, 0, rfl⟩) M
            simp only [Nat.mul_one, adr, blk, ofs, Nat.zero_add] at i5
            have i6 := fun w' => i5 ((base : Int) + (kk : Int)) w' (by omega) (by omega)
            rw [show ((base : Int) + (kk : Int)).toNat = base + kk by omega] at i6
            have hwA : IntKind.i64.wrap ((base : Int) + (kk : Int)) = (base : Int) + (kk : Int) := by rw [wrap_64]; unfold wrap64; omega
            have hbl5' : Bld 2 w5 wr.heap.size (.slice (some ⟨wr.heap.size, 0, none⟩) M M) ((List.replicate M (0 : Int)).map (.int .i64)) := by rw [List.map_replicate]; exact hbl5
            have x1 := hbl5'.atN (i := base + kk) (by simp; omega)
            have x2 := hbl5'.free (base + kk)
            have HBL5 := Lib.hid hbl5'
            have HB5 := Lib.hid hb5
            clear hbl5 hbl5' hb5 i5
            go_wp2
            go_region
            all_goals
              clear x1 x2 i6
              obtain ⟨w7, hw7⟩ : ∃ wz, wz = (w5.setCell ⟨wr.heap.size, base + kk, none⟩ (.int .i64 1)).drew := ⟨_, rfl⟩
              rw [← hw7]
              have hbl7 : Bld 2 w7 wr.heap.size (.slice (some ⟨wr.heap.size, 0, none⟩) M M) ((vecS M (base + kk)).map (.int .i64)) := by rw [hw7]; exact (HBL5.out.setN (base + kk) 1).below (Below.refl _ _).drew
              have hb57 : Below wr.heap.size w5 w7 := by rw [hw7]; exact ((Below.refl wr.heap.size w5).setCell (by exact Nat.le_refl _) _).drew
              have hb7 : Below wr.heap.size wr w7 := HB5.out.trans hb57
              have X7 := (bcell1 hb57 hxl).trans X0
              have Y7 := (bfroz1 hb57 hxl).trans Y0
              obtain ⟨ap, cp2, Fp, ep, hop2, hnp, hfp⟩ := hbl7.ow (by rw [vecS_len]; unfold maxLen; omega)
              rw [vecS_len] at ep hop2
              cases ep
              have hz7 : wr.heap.size < w7.heap.size := by have := hb57.size; omega
              have HLS := Lib.hid (HR.out.lst.below hb7)
              have HOP := Lib.hid hop2
              have HFP := Lib.hid hfp
              have HB7 := Lib.hid hb7
              have HLT := Lib.hid HR.out.lst.lt
              clear hw7 hbl7 hb57 hb7 hop2 hfp X0 Y0 CD F1 B0 G1 G2'
              go_wp2_with (at_builtin; refine app_lst rfl _ _ 29 rfl tabII rfl (by omega) (by decide) B _ LL.length (LL.map dI) [dI (vecS M (base + kk))] G2 Fp [.slice (some ⟨wr.heap.size, 0, none⟩) M M] rfl (by first | exact HLS.out.below (below_alloc _ _) | (rw [HNL.out]; exact HLS.out.below (below_alloc _ _))) w7.heap.size rfl ⟨⟨Fp, [], HOP.out.below (below_alloc _ _), rfl, by simp⟩, rfl, hnp, fun x hx => by have := HFP.out x hx; have := HBB.out; omega, fun x hx hg => (by have h9 : wr.heap.size ≤ x := HFP.out x hx; have := (HLT.out x hg).2; omega), (fun j u hu => by match j, hu with | 0, hu => (simp at hu; subst hu; simp)), by simp [Value.oneCell']⟩ (by first | omega | (rw [← HNL.out]; omega)) (by have := HBB.out; first | omega | (simp; omega)) ?_)
              intro v3 w8 G4 hN
              obtain ⟨_, a3, c3, rfl⟩ := hN.lst.val
              have hF2 : ∀ g, g ∈ Fp → wr.heap.size ≤ g := HFP.out
              obtain ⟨f8, ⟨u8, c8⟩, hS9⟩ := FolS.next HR.out (HB7.out.trans ((below_alloc w7 _).mono (by omega))) (by first | exact hN | (rw [HNL.out] at hN; exact hN)) hF2
              have HS9 : Hid (FolS 24 w0 (w8.setCell ⟨bx, 0, none⟩ (.slice a3 (LL.length + 1) c3)) bx B G0 (L ++ (([1] : List Int).map fun k => vecS M (base + k.toNat)).take (k + 1)) (.slice a3 (LL.length + 1) c3) G4) := Lib.hid (by rw [← HNX.out]; exact hS9)
              have hob : ∀ g, g ∈ ob (.slice av nl cv) → g ∈ G2 := by rw [HNL.out]; exact ob_sub HR.out.lst
              have hzD2 : wD.heap.size ≤ wr.heap.size := HC.out.size
              have HC9 : Hid (Chg (bx :: G) wD (w8.setCell ⟨bx, 0, none⟩ (.slice a3 (LL.length + 1) c3))) := Lib.hid (((HC.out.trans (Chg.ofBelow (HB7.out.trans ((below_alloc w7 (.cells #[.slice (some ⟨wr.heap.size, 0, none⟩) M M] 24)).mono (by omega))))).compG hN.chg (fun g hg => by
                rcases HG.out g (hob g hg) with e | e
                · exact .inl (by simp [e])
                · exact .inr e)).trans (chg_set w8 ⟨bx, 0, none⟩ _ (bx :: G) (by simp)))
              have HG9 : Hid (∀ g, g ∈ G4 → g ∈ G ∨ wD.heap.size ≤ g) := Lib.hid (fun g hg => by
                rcases hN.mem g hg with e | e | e
                · exact HG.out g e
                · have := hF2 g e; exact .inr (by omega)
                · simp at e; exact .inr (by omega))
              clear hN hS9 hF2 hob
              go_wp2
              go_roundw
              case rel => first | exact ⟨k + 1, _, G4, by omega, by go_num, HS9, HC9, HG9⟩ | ((repeat apply Exists.intro); refine ⟨?_, rfl⟩; exact ⟨k + 1, _, G4, by omega, by go_num, HS9, HC9, HG9⟩)
              case measure => simp [intOf]; omega
          · obtain rfl : k = 1 := by omega
            have HFIN : Hid (FolS 24 w0 wr bx B G0 (L ++ folC R os mode cc) v2 G2) := Lib.hid (by rw [HFC.out, HKS.out]; exact HR.out)
            go_wp2
            go_end0
            exact ⟨rfl, v2, G2, HFIN.out, (Chg.ofBelow HBD.out).trans HC.out, fun g hg => by
              have := HBD.out.size
              rcases HG.out g hg with e | e
              · exact .inl e
              · exact .inr (by omega)⟩
    · have HKS : Hid (offS ord mode x = [0]) := Lib.hid (by simp [offS, c2])
      have b2 : (x == 0) = false := by simpa using c2
      go_enter Try.func93, Try.ntmps93
      go_wp2
      obtain ⟨wD, hwD⟩ : ∃ wz, wz = ((w.alloc (.cells #[.int .i64 (pn : Int), .slice ac cc.regs.length ca] 68)).alloc (.cells #[.int .i64 2, .int .i64 ord.reg, .int .i64 ord.to, .int .i64 ord.els] 125)).alloc (.cells #[.int .i64 0] 2) := ⟨_, rfl⟩
      rw [← hwD]
      have hbD : Below w.heap.size w wD := by rw [hwD]; exact below_al (below_al (below_alloc _ _) _) _
      have hcD : wD.cell? ⟨w.heap.size, 0, none⟩ = some (.int .i64 (pn : Int)) := by rw [hwD]; simp [go_sem]
      have hSD : SlI Any wD (some ⟨w.heap.size + 2, 0, none⟩) ([0] : List Int) := SlI.one (by rw [hwD]; simp [go_sem])
      have hzD : w.heap.size + 2 < wD.heap.size := by rw [hwD]; simp
      have i3 := ix_of (P := Try.prog) tabI.under tabI.size (a := some ⟨w.heap.size + 2, 0, none⟩) (n := 1) (fun _ => ⟨w.heap.size + 2, 0, rfl⟩) 1
      simp only [Nat.mul_one, adr, blk, ofs, Nat.zero_add] at i3
      have HBD := Lib.hid hbD
      have HSD := Lib.hid hSD
      have HCD := Lib.hid hcD
      have HS0 := Lib.hid (HS.out.keep hbD)
      clear hwD hbD hSD hcD i0 i1 u0 u1 u2 u3 y1 y2 P1
      go_loopw [9, 10, 52] (fun _ _ i wr => ∃ (k : Nat) (v2 : Value) (G2 : List Nat), k ≤ 1 ∧ i = .int .i64 k ∧ Hid (FolS 24 w0 wr bx B G0 (L ++ (([0] : List Int).map fun k => vecS M (base + k.toNat)).take k) v2 G2) ∧ Hid (Chg (bx :: G) wD wr) ∧ Hid (∀ g, g ∈ G2 → g ∈ G ∨ wD.heap.size ≤ g)) (fun _ _ i _ => 1 - (intOf i).toNat)
      case atStart => exact ⟨0, v, G, Nat.zero_le _, rfl, by simpa using HS0, Lib.hid (Chg.refl _ _), Lib.hid fun g hg => .inl hg⟩
      case round =>
        obtain ⟨k, v2, G2, hk, rfl, HR, HC, HG⟩ := hrel
        have hzr : w.heap.size + 2 < wr.heap.size := by have := HC.out.size; omega
        have hnx : ∀ b, w.heap.size ≤ b → b < wD.heap.size → b ∉ bx :: G := fun b h1 h2 e => by
          have hxl : bx < w.heap.size := Nat.lt_of_lt_of_le HS.out.hx HSZ.out
          rcases List.mem_cons.1 e with e | e
          · omega
          · have := (HS.out.lst.lt _ e).2; omega
        by_cases hlt2 : k < 1
        · have hkt : (k : Int) < 1 := by omega
          have hro := HRO.out wr HR.out.chg
          have B0 := hro.b0
          have G1 := hro.g1
          have G2' := hro.g2
          have hzb : bb < wr.heap.size := World.block_lt_of_cell? wr _ B0
          have hzg : gb < wr.heap.size := World.block_lt_of_cell? wr _ G1
          have F1 := hro.sf.cell pn (by rw [HFL.out]; exact hi)
          rw [HFB.out] at F1
          have hzf := World.block_lt_of_cell? wr _ F1
          have i4 := fun w' => hro.sf.ix tabI.under tabI.size cf (pn : Int) w' (by omega) (by rw [HFL.out]; exact hlt)
          simp only [Int.toNat_natCast] at i4
          have CD := (HC.out.cell (b := w.heap.size) (by omega) (hnx _ (by omega) (by omega)) 0).trans HCD.out
          have hge : nth ([0] : List Int) k ∈ ([0] : List Int) := by rw [nth_lt (show k < ([0] : List Int).length from hlt2)]; exact List.getElem_mem hlt2
          have hof := HOF.out _ (by rw [HKS.out]; exact hge)
          obtain ⟨kk, hkk⟩ : ∃ m : Nat, nth ([0] : List Int) k = (m : Int) := ⟨(nth ([0] : List Int) k).toNat, by omega⟩
          rw [hkk, Int.toNat_natCast] at hof
          have K1 : wr.cell? ⟨w.heap.size + 2, k, none⟩ = some (.int .i64 (kk : Int)) := by
            rw [HC.out.cell (b := w.heap.size + 2) (by omega) (hnx _ (by omega) (by omega)) k, ← hkk]
            have := HSD.out.cell k hlt2
            simpa [adr, blk, ofs] using this
          have HNX : Hid ((L ++ (([0] : List Int).map fun k => vecS M (base + k.toNat)).take k) ++ [vecS M (base + kk)] = L ++ (([0] : List Int).map fun k => vecS M (base + k.toNat)).take (k + 1)) := Lib.hid (by
            rw [List.append_assoc, List.take_succ_eq_append_getElem (by simpa using hlt2), List.getElem_map]
            have e2 : ([0] : List Int)[k]'hlt2 = (kk : Int) := by rw [← hkk, nth_lt hlt2]
            rw [e2, Int.toNat_natCast])
          obtain ⟨_, av, cv, rfl⟩ := HR.out.lst.val
          have X0 := HR.out.cell
          have Y0 := HR.out.free
          have hxl : bx < wr.heap.size := World.block_lt_of_cell? wr _ X0
          obtain ⟨LL, hLL⟩ : ∃ l, l = L ++ (([0] : List Int).map fun k => vecS M (base + k.toNat)).take k := ⟨_, rfl⟩
          have hLs : LL.length ≤ 1002 := by rw [hLL, List.length_append, List.length_take]; have := HLL.out; simp; omega
          rw [← hLL] at HR HNX X0
          obtain ⟨nl, hnl⟩ : ∃ n, n = LL.length := ⟨_, rfl⟩
          rw [← hnl] at X0 hLs
          have HNL := Lib.hid hnl
          clear hro hge hLL hnl
          go_wp2_with (at_make; refine make_one rfl _ _ 24 rfl tabI rfl (by decide) M _ _ rfl rfl rfl rfl (by omega) wr.heap.size (Nat.le_refl _) ?_)
          intro w5 hbl5 hb5 hz5
          replace B0 := (bcell1 hb5 hzb).trans B0
          replace G1 := (bcell1 hb5 hzg).trans G1
          replace G2' := (bcell1 hb5 hzg).trans G2'
          replace F1 := (hb5.cell hzf).trans F1
          replace CD := (bcell1 hb5 (by omega)).trans CD
          replace X0 := (bcell1 hb5 hxl).trans X0
          replace Y0 := (bfroz1 hb5 hxl).trans Y0
          have i5 := ix_of (P := Try.prog) tabI.under tabI.size (a := some ⟨wr.heap.size, 0, none⟩) (n := M) (fun _ => ⟨wr.heap.size, 0, rfl⟩) M
          simp only [Nat.mul_one, adr, blk, ofs, Nat.zero_add] at i5
          have i6 := fun w' => i5 ((base : Int) + (kk : Int)) w' (by omega) (by omega)
          rw [show ((base : Int) + (kk : Int)).toNat = base + kk by omega] at i6
          have hwA : IntKind.i64.wrap ((base : Int) + (kk : Int)) = (base : Int) + (kk : Int) := by rw [wrap_64]; unfold wrap64; omega
          have hbl5' : Bld 2 w5 wr.heap.size (.slice (some ⟨wr.heap.size, 0, none⟩) M M) ((List.replicate M (0 : Int)).map (.int .i64)) := by rw [List.map_replicate]; exact hbl5
          have x1 := hbl5'.atN (i := base + kk) (by simp; omega)
          have x2 := hbl5'.free (base + kk)
          have HBL5 := Lib.hid hbl5'
          have HB5 := Lib.hid hb5
          clear hbl5 hbl5' hb5 i5
          go_wp2
          go_region
          all_goals
            clear x1 x2 i6
            obtain ⟨w7, hw7⟩ : ∃ wz, wz = (w5.setCell ⟨wr.heap.size, base + kk, none⟩ (.int .i64 1)).drew := ⟨_, rfl⟩
            rw [← hw7]
            have hbl7 : Bld 2 w7 wr.heap.size (.slice (some ⟨wr.heap.size, 0, none⟩) M M) ((vecS M (base + kk)).map (.int .i64)) := by rw [hw7]; exact (HBL5.out.setN (base + kk) 1).below (Below.refl _ _).drew
            have hb57 : Below wr.heap.size w5 w7 := by rw [hw7]; exact ((Below.refl wr.heap.size w5).setCell (by exact Nat.le_refl _) _).drew
            have hb7 : Below wr.heap.size wr w7 := HB5.out.trans hb57
            have X7 := (bcell1 hb57 hxl).trans X0
            have Y7 := (bfroz1 hb57 hxl).trans Y0
            obtain ⟨ap, cp2, Fp, ep, hop2, hnp, hfp⟩ := hbl7.ow (by rw [vecS_len]; unfold maxLen; omega)
            rw [vecS_len] at ep hop2
            cases ep
            have hz7 : wr.heap.size < w7.heap.size := by have := hb57.size; omega
            have HLS := Lib.hid (HR.out.lst.below hb7)
            have HOP := Lib.hid hop2
            have HFP := Lib.hid hfp
            have HB7 := Lib.hid hb7
            have HLT := Lib.hid HR.out.lst.lt
            clear hw7 hbl7 hb57 hb7 hop2 hfp X0 Y0 CD F1 B0 G1 G2'
            go_wp2_with (at_builtin; refine app_lst rfl _ _ 29 rfl tabII rfl (by omega) (by decide) B _ LL.length (LL.map dI) [dI (vecS M (base + kk))] G2 Fp [.slice (some ⟨wr.heap.size, 0, none⟩) M M] rfl (by first | exact HLS.out.below (below_alloc _ _) | (rw [HNL.out]; exact HLS.out.below (below_alloc _ _))) w7.heap.size rfl ⟨⟨Fp, [], HOP.out.below (below_alloc _ _), rfl, by simp⟩, rfl, hnp, fun x hx => by have := HFP.out x hx; have := HBB.out; omega, fun x hx hg => (by have h9 : wr.heap.size ≤ x := HFP.out x hx; have := (HLT.out x hg).2; omega), (fun j u hu => by match j, hu with | 0, hu => (simp at hu; subst hu; simp)), by simp [Value.oneCell']⟩ (by first | omega | (rw [← HNL.out]; omega)) (by have := HBB.out; first | omega | (simp; omega)) ?_)
            intro v3 w8 G4 hN
            obtain ⟨_, a3, c3, rfl⟩ := hN.lst.val
            have hF2 : ∀ g, g ∈ Fp → wr.heap.size ≤ g := HFP.out
            obtain ⟨f8, ⟨u8, c8⟩, hS9⟩ := FolS.next HR.out (HB7.out.trans ((below_alloc w7 _).mono (by omega))) (by first | exact hN | (rw [HNL.out] at hN; exact hN)) hF2
            have HS9 : Hid (FolS 24 w0 (w8.setCell ⟨bx, 0, none⟩ (.slice a3 (LL.length + 1) c3)) bx B G0 (L ++ (([0] : List Int).map fun k => vecS M (base + k.toNat)).take (k + 1)) (.slice a3 (LL.length + 1) c3) G4) := Lib.hid (by rw [← HNX.out]; exact hS9)
            have hob : ∀ g, g ∈ ob (.slice av nl cv) → g ∈ G2 := by rw [HNL.out]; exact ob_sub HR.out.lst
            have hzD2 : wD.heap.size ≤ wr.heap.size := HC.out.size
            have HC9 : Hid (Chg (bx :: G) wD (w8.setCell ⟨bx, 0, none⟩ (.slice a3 (LL.length + 1) c3))) := Lib.hid (((HC.out.trans (Chg.ofBelow (HB7.out.trans ((below_alloc w7 (.cells #[.slice (some ⟨wr.heap.size, 0, none⟩) M M] 24)).mono (by omega))))).compG hN.chg (fun g hg => by
              rcases HG.out g (hob g hg) with e | e
              · exact .inl (by simp [e])
              · exact .inr e)).trans (chg_set w8 ⟨bx, 0, none⟩ _ (bx :: G) (by simp)))
            have HG9 : Hid (∀ g, g ∈ G4 → g ∈ G ∨ wD.heap.size ≤ g) := Lib.hid (fun g hg => by
              rcases hN.mem g hg with e | e | e
              · exact HG.out g e
              · have := hF2 g e; exact .inr (by omega)
              · simp at e; exact .inr (by omega))
            clear hN hS9 hF2 hob
            go_wp2
            go_roundw
            case rel => first | exact ⟨k + 1, _, G4, by omega, by go_num, HS9, HC9, HG9⟩ | ((repeat apply Exists.intro); refine ⟨?_, rfl⟩; exact ⟨k + 1, _, G4, by omega, by go_num, HS9, HC9, HG9⟩)
            case measure => simp [intOf]; omega
        · obtain rfl : k = 1 := by omega
          have HFIN : Hid (FolS 24 w0 wr bx B G0 (L ++ folC R os mode cc) v2 G2) := Lib.hid (by rw [HFC.out, HKS.out]; exact HR.out)
          go_wp2
          go_end0
          exact ⟨rfl, v2, G2, HFIN.out, (Chg.ofBelow HBD.out).trans HC.out, fun g hg => by
            have := HBD.out.size
            rcases HG.out g hg with e | e
            · exact .inl e
            · exact .inr (by omega)⟩
  · have HKS : Hid (offS ord mode x = [0]) := Lib.hid (by simp [offS, c1])
    have b1 : (ord.op == 2) = false := by simpa using c1
    go_enter Try.func93, Try.ntmps93
    go_wp2
    obtain ⟨wD, hwD⟩ : ∃ wz, wz = ((w.alloc (.cells #[.int .i64 (pn : Int), .slice ac cc.regs.length ca] 68)).alloc (.cells #[.int .i64 ord.op, .int .i64 ord.reg, .int .i64 ord.to, .int .i64 ord.els] 125)).alloc (.cells #[.int .i64 0] 2) := ⟨_, rfl⟩
    rw [← hwD]
    have hbD : Below w.heap.size w wD := by rw [hwD]; exact below_al (below_al (below_alloc _ _) _) _
    have hcD : wD.cell? ⟨w.heap.size, 0, none⟩ = some (.int .i64 (pn : Int)) := by rw [hwD]; simp [go_sem]
    have hSD : SlI Any wD (some ⟨w.heap.size + 2, 0, none⟩) ([0] : List Int) := SlI.one (by rw [hwD]; simp [go_sem])
    have hzD : w.heap.size + 2 < wD.heap.size := by rw [hwD]; simp
    have i3 := ix_of (P := Try.prog) tabI.under tabI.size (a := some ⟨w.heap.size + 2, 0, none⟩) (n := 1) (fun _ => ⟨w.heap.size + 2, 0, rfl⟩) 1
    simp only [Nat.mul_one, adr, blk, ofs, Nat.zero_add] at i3
    have HBD := Lib.hid hbD
    have HSD := Lib.hid hSD
    have HCD := Lib.hid hcD
    have HS0 := Lib.hid (HS.out.keep hbD)
    clear hwD hbD hSD hcD i0 i1 u0 u1 u2 u3 y1 y2 P1
    go_loopw [9, 10, 52] (fun _ _ i wr => ∃ (k : Nat) (v2 : Value) (G2 : List Nat), k ≤ 1 ∧ i = .int .i64 k ∧ Hid (FolS 24 w0 wr bx B G0 (L ++ (([0] : List Int).map fun k => vecS M (base + k.toNat)).take k) v2 G2) ∧ Hid (Chg (bx :: G) wD wr) ∧ Hid (∀ g, g ∈ G2 → g ∈ G ∨ wD.heap.size ≤ g)) (fun _ _ i _ => 1 - (intOf i).toNat)
    case atStart => exact ⟨0, v, G, Nat.zero_le _, rfl, by simpa using HS0, Lib.hid (Chg.refl _ _), Lib.hid fun g hg => .inl hg⟩
    case round =>
      obtain ⟨k, v2, G2, hk, rfl, HR, HC, HG⟩ := hrel
      have hzr : w.heap.size + 2 < wr.heap.size := by have := HC.out.size; omega
      have hnx : ∀ b, w.heap.size ≤ b → b < wD.heap.size → b ∉ bx :: G := fun b h1 h2 e => by
        have hxl : bx < w.heap.size := Nat.lt_of_lt_of_le HS.out.hx HSZ.out
        rcases List.mem_cons.1 e with e | e
        · omega
        · have := (HS.out.lst.lt _ e).2; omega
      by_cases hlt2 : k < 1
      · have hkt : (k : Int) < 1 := by omega
        have hro := HRO.out wr HR.out.chg
        have B0 := hro.b0
        have G1 := hro.g1
        have G2' := hro.g2
        have hzb : bb < wr.heap.size := World.block_lt_of_cell? wr _ B0
        have hzg : gb < wr.heap.size := World.block_lt_of_cell? wr _ G1
        have F1 := hro.sf.cell pn (by rw [HFL.out]; exact hi)
        rw [HFB.out] at F1
        have hzf := World.block_lt_of_cell? wr _ F1
        have i4 := fun w' => hro.sf.ix tabI.under tabI.size cf (pn : Int) w' (by omega) (by rw [HFL.out]; exact hlt)
        simp only [Int.toNat_natCast] at i4
        have CD := (HC.out.cell (b := w.heap.size) (by omega) (hnx _ (by omega) (by omega)) 0).trans HCD.out
        have hge : nth ([0] : List Int) k ∈ ([0] : List Int) := by rw [nth_lt (show k < ([0] : List Int).length from hlt2)]; exact List.getElem_mem hlt2
        have hof := HOF.out _ (by rw [HKS.out]; exact hge)
        obtain ⟨kk, hkk⟩ : ∃ m : Nat, nth ([0] : List Int) k = (m : Int) := ⟨(nth ([0] : List Int) k).toNat, by omega⟩
        rw [hkk, Int.toNat_natCast] at hof
        have K1 : wr.cell? ⟨w.heap.size + 2, k, none⟩ = some (.int .i64 (kk : Int)) := by
          rw [HC.out.cell (b := w.heap.size + 2) (by omega) (hnx _ (by omega) (by omega)) k, ← hkk]
          have := HSD.out.cell k hlt2
          simpa [adr, blk, ofs] using this
        have HNX : Hid ((L ++ (([0] : List Int).map fun k => vecS M (base + k.toNat)).take k) ++ [vecS M (base + kk)] = L ++ (([0] : List Int).map fun k => vecS M (base + k.toNat)).take (k + 1)) := Lib.hid (by
          rw [List.append_assoc, List.take_succ_eq_append_getElem (by simpa using hlt2), List.getElem_map]
          have e2 : ([0] : List Int)[k]'hlt2 = (kk : Int) := by rw [← hkk, nth_lt hlt2]
          rw [e2, Int.toNat_natCast])
        obtain ⟨_, av, cv, rfl⟩ := HR.out.lst.val
        have X0 := HR.out.cell
        have Y0 := HR.out.free
        have hxl : bx < wr.heap.size := World.block_lt_of_cell? wr _ X0
        obtain ⟨LL, hLL⟩ : ∃ l, l = L ++ (([0] : List Int).map fun k => vecS M (base + k.toNat)).take k := ⟨_, rfl⟩
        have hLs : LL.length ≤ 1002 := by rw [hLL, List.length_append, List.length_take]; have := HLL.out; simp; omega
        rw [← hLL] at HR HNX X0
        obtain ⟨nl, hnl⟩ : ∃ n, n = LL.length := ⟨_, rfl⟩
        rw [← hnl] at X0 hLs
        have HNL := Lib.hid hnl
        clear hro hge hLL hnl
        go_wp2_with (at_make; refine make_one rfl _ _ 24 rfl tabI rfl (by decide) M _ _ rfl rfl rfl rfl (by omega) wr.heap.size (Nat.le_refl _) ?_)
        intro w5 hbl5 hb5 hz5
        replace B0 := (bcell1 hb5 hzb).trans B0
        replace G1 := (bcell1 hb5 hzg).trans G1
        replace G2' := (bcell1 hb5 hzg).trans G2'
        replace F1 := (hb5.cell hzf).trans F1
        replace CD := (bcell1 hb5 (by omega)).trans CD
        replace X0 := (bcell1 hb5 hxl).trans X0
        replace Y0 := (bfroz1 hb5 hxl).trans Y0
        have i5 := ix_of (P := Try.prog) tabI.under tabI.size (a := some ⟨wr.heap.size, 0, none⟩) (n := M) (fun _ => ⟨wr.heap.size, 0, rfl⟩) M
        simp only [Nat.mul_one, adr, blk, ofs, Nat.zero_add] at i5
        have i6 := fun w' => i5 ((base : Int) + (kk : Int)) w' (by omega) (by omega)
        rw [show ((base : Int) + (kk : Int)).toNat = base + kk by omega] at i6
        have hwA : IntKind.i64.wrap ((base : Int) + (kk : Int)) = (base : Int) + (kk : Int) := by rw [wrap_64]; unfold wrap64; omega
        have hbl5' : Bld 2 w5 wr.heap.size (.slice (some ⟨wr.heap.size, 0, none⟩) M M) ((List.replicate M (0 : Int)).map (.int .i64)) := by rw [List.map_replicate]; exact hbl5
        have x1 := hbl5'.atN (i := base + kk) (by simp; omega)
        have x2 := hbl5'.free (base + kk)
        have HBL5 := Lib.hid hbl5'
        have HB5 := Lib.hid hb5
        clear hbl5 hbl5' hb5 i5
        go_wp2
        go_region
        all_goals
          clear x1 x2 i6
          obtain ⟨w7, hw7⟩ : ∃ wz, wz = (w5.setCell ⟨wr.heap.size, base + kk, none⟩ (.int .i64 1)).drew := ⟨_, rfl⟩
          rw [← hw7]
          have hbl7 : Bld 2 w7 wr.heap.size (.slice (some ⟨wr.heap.size, 0, none⟩) M M) ((vecS M (base + kk)).map (.int .i64)) := by rw [hw7]; exact (HBL5.out.setN (base + kk) 1).below (Below.refl _ _).drew
          have hb57 : Below wr.heap.size w5 w7 := by rw [hw7]; exact ((Below.refl wr.heap.size w5).setCell (by exact Nat.le_refl _) _).drew
          have hb7 : Below wr.heap.size wr w7 := HB5.out.trans hb57
          have X7 := (bcell1 hb57 hxl).trans X0
          have Y7 := (bfroz1 hb57 hxl).trans Y0
          obtain ⟨ap, cp2, Fp, ep, hop2, hnp, hfp⟩ := hbl7.ow (by rw [vecS_len]; unfold maxLen; omega)
          rw [vecS_len] at ep hop2
          cases ep
          have hz7 : wr.heap.size < w7.heap.size := by have := hb57.size; omega
          have HLS := Lib.hid (HR.out.lst.below hb7)
          have HOP := Lib.hid hop2
          have HFP := Lib.hid hfp
          have HB7 := Lib.hid hb7
          have HLT := Lib.hid HR.out.lst.lt
          clear hw7 hbl7 hb57 hb7 hop2 hfp X0 Y0 CD F1 B0 G1 G2'
          go_wp2_with (at_builtin; refine app_lst rfl _ _ 29 rfl tabII rfl (by omega) (by decide) B _ LL.length (LL.map dI) [dI (vecS M (base + kk))] G2 Fp [.slice (some ⟨wr.heap.size, 0, none⟩) M M] rfl (by first | exact HLS.out.below (below_alloc _ _) | (rw [HNL.out]; exact HLS.out.below (below_alloc _ _))) w7.heap.size rfl ⟨⟨Fp, [], HOP.out.below (below_alloc _ _), rfl, by simp⟩, rfl, hnp, fun x hx => by have := HFP.out x hx; have := HBB.out; omega, fun x hx hg => (by have h9 : wr.heap.size ≤ x := HFP.out x hx; have := (HLT.out x hg).2; omega), (fun j u hu => by match j, hu with | 0, hu => (simp at hu; subst hu; simp)), by simp [Value.oneCell']⟩ (by first | omega | (rw [← HNL.out]; omega)) (by have := HBB.out; first | omega | (simp; omega)) ?_)
          intro v3 w8 G4 hN
          obtain ⟨_, a3, c3, rfl⟩ := hN.lst.val
          have hF2 : ∀ g, g ∈ Fp → wr.heap.size ≤ g := HFP.out
          obtain ⟨f8, ⟨u8, c8⟩, hS9⟩ := FolS.next HR.out (HB7.out.trans ((below_alloc w7 _).mono (by omega))) (by first | exact hN | (rw [HNL.out] at hN; exact hN)) hF2
          have HS9 : Hid (FolS 24 w0 (w8.setCell ⟨bx, 0, none⟩ (.slice a3 (LL.length + 1) c3)) bx B G0 (L ++ (([0] : List Int).map fun k => vecS M (base + k.toNat)).take (k + 1)) (.slice a3 (LL.length + 1) c3) G4) := Lib.hid (by rw [← HNX.out]; exact hS9)
          have hob : ∀ g, g ∈ ob (.slice av nl cv) → g ∈ G2 := by rw [HNL.out]; exact ob_sub HR.out.lst
          have hzD2 : wD.heap.size ≤ wr.heap.size := HC.out.size
          have HC9 : Hid (Chg (bx :: G) wD (w8.setCell ⟨bx, 0, none⟩ (.slice a3 (LL.length + 1) c3))) := Lib.hid (((HC.out.trans (Chg.ofBelow (HB7.out.trans ((below_alloc w7 (.cells #[.slice (some ⟨wr.heap.size, 0, none⟩) M M] 24)).mono (by omega))))).compG hN.chg (fun g hg => by
            rcases HG.out g (hob g hg) with e | e
            · exact .inl (by simp [e])
            · exact .inr e)).trans (chg_set w8 ⟨bx, 0, none⟩ _ (bx :: G) (by simp)))
          have HG9 : Hid (∀ g, g ∈ G4 → g ∈ G ∨ wD.heap.size ≤ g) := Lib.hid (fun g hg => by
            rcases hN.mem g hg with e | e | e
            · exact HG.out g e
            · have := hF2 g e; exact .inr (by omega)
            · simp at e; exact .inr (by omega))
          clear hN hS9 hF2 hob
          go_wp2
          go_roundw
          case rel => first | exact ⟨k + 1, _, G4, by omega, by go_num, HS9, HC9, HG9⟩ | ((repeat apply Exists.intro); refine ⟨?_, rfl⟩; exact ⟨k + 1, _, G4, by omega, by go_num, HS9, HC9, HG9⟩)
          case measure => simp [intOf]; omega
      · obtain rfl : k = 1 := by omega
        have HFIN : Hid (FolS 24 w0 wr bx B G0 (L ++ folC R os mode cc) v2 G2) := Lib.hid (by rw [HFC.out, HKS.out]; exact HR.out)
        go_wp2
        go_end0
        exact ⟨rfl, v2, G2, HFIN.out, (Chg.ofBelow HBD.out).trans HC.out, fun g hg => by
          have := HBD.out.size
          rcases HG.out g hg with e | e
          · exact .inl e
          · exact .inr (by omega)⟩
end Go.Proofs.Ytncndnholheemaa
