/- The text of a program: contracts. -/
import Derived.Test.YtbnikblhnibgiaaDoorTD
import Derived.Test.YtbnikblhnibgiaaDoorQV
namespace Go.Proofs.YtbnikblhnibgiaaDoor
open Go.RowKit

/-- The text of a number of one digit, as bytes. -/
def decB (i : Nat) : ByteArray := ⟨(decL i).toArray⟩
theorem decB_size (i : Nat) : (decB i).size = 1 := rfl
/-- The text of an order. -/
def ordT (o : Ord) : ByteArray := if o.op = 3 then ⟨#[104, 97, 108, 116]⟩ else if o.op = 2 then ⟨#[115, 117, 98, 32]⟩ ++ decB o.reg.toNat ++ ⟨#[32]⟩ ++ decB o.to.toNat ++ ⟨#[32]⟩ ++ decB o.els.toNat else ⟨#[97, 100, 100, 32]⟩ ++ decB o.reg.toNat ++ ⟨#[32]⟩ ++ decB o.to.toNat ++ ⟨#[32]⟩ ++ decB o.els.toNat
theorem ordT_size (o : Ord) : (ordT o).size ≤ 9 := by
  unfold ordT
  split
  · exact (by decide : 4 ≤ 9)
  · split <;> simp [ByteArray.size_append, decB_size] <;> decide
/-- The text of the first k orders of a program. -/
def progT (R : Int) (os : List Ord) : Nat → ByteArray
  | 0 => ⟨#[112, 114, 111, 103, 114, 97, 109, 32]⟩ ++ decB R.toNat ++ ⟨#[10]⟩
  | k + 1 => progT R os k ++ (ordT (nthO os k) ++ ⟨#[10]⟩)
theorem progT_size (R : Int) (os : List Ord) : ∀ k, (progT R os k).size ≤ 10 + 10 * k
  | 0 => by simp [progT, ByteArray.size_append, decB_size]; decide
  | k + 1 => by
    have h1 := progT_size R os k
    have h2 := ordT_size (nthO os k)
    have h3 : (ByteArray.mk #[10]).size = 1 := rfl
    simp only [progT, ByteArray.size_append, h3]
    omega
def textB (R : Int) (os : List Ord) : ByteArray := if validProgS R os = true then progT R os os.length else ⟨#[]⟩
theorem ret_str {a b : ByteArray} (h : a = b) : Ending.returned (.string a) = .returned (.string b) := by rw [h]
/-- An order of a valid program. -/
structure OkO (o : Ord) : Prop where
  op : o.op = 1 ∨ o.op = 2 ∨ o.op = 3
  reg : 0 ≤ o.reg ∧ o.reg < 10
  to : 0 ≤ o.to ∧ o.to < 10
  els : 0 ≤ o.els ∧ o.els < 10
theorem valid_ok {R : Int} {os : List Ord} (h : validProgS R os = true) : 0 ≤ R ∧ R < 10 ∧ os.length ≤ 6 ∧ ∀ k, k < os.length → OkO (nthO os k) := by
  have hR : 1 ≤ R ∧ R ≤ 3 ∧ 1 ≤ os.length ∧ os.length ≤ 6 := by simp [validProgS, inRg] at h; omega
  refine ⟨by omega, by omega, by omega, fun k hk => ?_⟩
  have hok : okOrd R os.length (nthO os k) = true := by
    simp only [validProgS, Bool.and_eq_true] at h
    have h2 := h.2
    rw [allO, List.all_eq_true] at h2
    rw [nthO_lt hk]; exact h2 _ (List.getElem_mem hk)
  unfold okOrd at hok
  split at hok
  · rename_i hop
    simp [inRg] at hok
    exact ⟨by omega, by omega, by omega, by omega⟩
  · simp at hok
    exact ⟨by omega, by omega, by omega, by omega⟩
set_option maxHeartbeats 1000000 in
set_option maxRecDepth 100000 in
theorem orderText_c (o : Ord) (h : OkO o) (w : World) : Calls Tryd.prog 65 #[.agg #[.int .i64 o.op, .int .i64 o.reg, .int .i64 o.to, .int .i64 o.els]] w (RetV w (.string (ordT o))) := by
  obtain ⟨hop, hr, ht, he⟩ := h
  obtain ⟨op, reg, to, els⟩ := o
  simp only at hop hr ht he ⊢
  obtain ⟨r, rfl⟩ : ∃ n : Nat, reg = (n : Int) := ⟨reg.toNat, by omega⟩
  obtain ⟨t, rfl⟩ : ∃ n : Nat, to = (n : Int) := ⟨to.toNat, by omega⟩
  obtain ⟨l, rfl⟩ : ∃ n : Nat, els = (n : Int) := ⟨els.toNat, by omega⟩
  have D1 : Hid (∀ wx, Calls Tryd.prog 55 #[.int .i64 r] wx (RetP wx (.string (decB r)))) := Lib.hid (fun wx => decimal_c r (by omega) wx)
  have D2 : Hid (∀ wx, Calls Tryd.prog 55 #[.int .i64 t] wx (RetP wx (.string (decB t)))) := Lib.hid (fun wx => decimal_c t (by omega) wx)
  have D3 : Hid (∀ wx, Calls Tryd.prog 55 #[.int .i64 l] wx (RetP wx (.string (decB l)))) := Lib.hid (fun wx => decimal_c l (by omega) wx)
  have s1 := decB_size r
  have s2 := decB_size t
  have s3 := decB_size l
  clear hr ht he
  rcases hop with rfl | rfl | rfl
  · go_enter Tryd.func65, Tryd.ntmps65
    go_wp2
    go_quiet (first | with_reducible exact quietP (D1.out _) | with_reducible exact quietP (D2.out _) | with_reducible exact quietP (D3.out _))
    go_wp2
    go_ret
    exact ⟨rfl, (below_alloc _ _).trans (below_drewN _ _ _)⟩
  · go_enter Tryd.func65, Tryd.ntmps65
    go_wp2
    go_quiet (first | with_reducible exact quietP (D1.out _) | with_reducible exact quietP (D2.out _) | with_reducible exact quietP (D3.out _))
    go_wp2
    go_ret
    exact ⟨rfl, (below_alloc _ _).trans (below_drewN _ _ _)⟩
  · go_enter Tryd.func65, Tryd.ntmps65
    go_wp2
    go_ret
    exact ⟨rfl, below_alloc _ _⟩
set_option maxHeartbeats 2000000 in
set_option maxRecDepth 100000 in
theorem implProgramText_c (R : Int) (os : List Ord) (a : Option Addr) (c : Nat) (w : World) (hx : SlO Any w a os) :
    Calls Tryd.prog 47 #[.agg #[.int .i64 R, .slice a os.length c]] w (RetV w (.string (textB R os))) := by
  have hb0 := below_alloc w (.cells #[.int .i64 R, .slice a os.length c] 36)
  have HV := Lib.hid (implValidProgram_c R Any a c os (w.alloc (.cells #[.int .i64 R, .slice a os.length c] 36)) (hx.below hb0))
  have HB0 := Lib.hid hb0
  have HX := Lib.hid hx
  have i1 := ix_of (P := Tryd.prog) tabO.under tabO.size (fun h0 => (hx.ptr h0).2) c
  cases hv : validProgS R os
  · have e : textB R os = ⟨#[]⟩ := by rw [textB, if_neg (by rw [hv]; simp)]
    rw [e]
    rw [hv] at HV
    clear e hv hb0 hx
    go_enter Tryd.func47, Tryd.ntmps47
    go_wp2_with fail
    refine HV.out.mono ?_
    rintro e w1 ⟨rfl, hb1⟩
    have HB1 := Lib.hid (HB0.out.trans (hb1.mono (by simp)))
    clear hb1
    go_wp2
    go_ret
    exact ⟨rfl, HB1.out⟩
  · have e : textB R os = progT R os os.length := by rw [textB, if_pos hv]
    rw [hv] at HV
    obtain ⟨hR0, hR1, hl6, hok⟩ := valid_ok hv
    obtain ⟨r, rfl⟩ : ∃ n : Nat, R = (n : Int) := ⟨R.toNat, by omega⟩
    have D0 : Hid (∀ wx, Calls Tryd.prog 55 #[.int .i64 r] wx (RetP wx (.string (decB r)))) := Lib.hid (fun wx => decimal_c r (by omega) wx)
    have s0 := decB_size r
    have HP0 : Hid (progT (r : Int) os 0 = ⟨#[112, 114, 111, 103, 114, 97, 109, 32]⟩ ++ decB r ++ ⟨#[10]⟩) := Lib.hid rfl
    have HOK := Lib.hid hok
    have HSZ := Lib.hid (progT_size (r : Int) os)
    have HE := Lib.hid e
    clear hv hb0 hx hR0 hR1 hok e
    go_enter Tryd.func47, Tryd.ntmps47
    go_wp2_with fail
    refine HV.out.mono ?_
    rintro e w1 ⟨rfl, hb1⟩
    have f0 : w1.cell? ⟨w.heap.size, 0, none⟩ = some (.int .i64 (r : Int)) := by rw [bcell1 hb1 (by simp)]; simp [go_sem]
    have f1 : w1.cell? ⟨w.heap.size, 1, none⟩ = some (.slice a os.length c) := by rw [bcell1 hb1 (by simp)]; simp [go_sem]
    have HB1 : Hid (Below w.heap.size w w1) := Lib.hid (HB0.out.trans (hb1.mono (by simp)))
    clear hb1
    go_wp2_with fail
    refine (D0.out _).mono ?_
    rintro e w2 ⟨rfl, rfl⟩
    go_wp2
    go_loopw [3, 5, 17] (fun s _ i wr => ∃ k : Nat, k ≤ os.length ∧ i = .int .i64 k ∧ s = .string (progT (r : Int) os k) ∧ Hid (Below w.heap.size w wr)) (fun _ _ i _ => os.length - (intOf i).toNat)
    case atStart => exact ⟨0, Nat.zero_le _, rfl, by rw [HP0.out], HB1⟩
    case round =>
      obtain ⟨k, hk, rfl, rfl, HB⟩ := hrel
      by_cases hlt : k < os.length
      · have hki : (k : Int) < os.length := by omega
        have hsl := HX.out.below HB.out
        have g0 := hsl.c0 k hlt
        have g1 := hsl.c1 k hlt
        have g2 := hsl.c2 k hlt
        have g3 := hsl.c3 k hlt
        obtain ⟨o, ho⟩ : ∃ o, o = nthO os k := ⟨_, rfl⟩
        rw [← ho] at g0 g1 g2 g3
        have C := Lib.hid (fun wx => orderText_c o (by rw [ho]; exact HOK.out k hlt) wx)
        obtain ⟨b, hb⟩ : ∃ b, b = progT (r : Int) os k := ⟨_, rfl⟩
        have HN : Hid (b ++ (ordT o ++ ⟨#[10]⟩) = progT (r : Int) os (k + 1)) := Lib.hid (by rw [hb, ho]; rfl)
        have hbs : b.size ≤ 70 := by have := HSZ.out k; rw [hb]; omega
        have hos := ordT_size o
        rw [← hb]
        obtain ⟨t, ht⟩ : ∃ t, t = ordT o := ⟨_, rfl⟩
        rw [← ht] at C HN hos
        have HZ := HB.out.size
        clear hsl ho hb ht
        go_wp2_with fail
        refine (C.out _).mono ?_
        rintro e w3 ⟨rfl, hb3⟩
        have HB3 : Hid (Below w.heap.size w w3) := Lib.hid (bnext (HB.out.alloc HB.out.size _) hb3 (Nat.le_refl _))
        clear hb3 C
        go_wp2
        go_roundw
        case rel => exact ⟨k + 1, by omega, by go_num, by rw [HN.out], HB3⟩
        case measure => simp [intOf]; omega
      · obtain rfl : k = os.length := by omega
        go_wp2
        go_ret
        exact ⟨ret_str HE.out.symm, HB.out⟩
set_option maxHeartbeats 4000000 in
set_option maxRecDepth 100000 in
theorem l05Text_c (R : Int) (os : List Ord) (a : Option Addr) (c p : Nat) (w : World) (hx : SlO Any w a os) (hp0 : w.cell? ⟨p, 0, none⟩ = some (.int .i64 R)) (hp1 : w.cell? ⟨p, 1, none⟩ = some (.slice a os.length c)) (hv : validProgS R os = true) :
    Calls Tryd.prog 41 #[.pointer (some ⟨p, 0, none⟩)] w (RetV w (.string (progT R os os.length))) := by
  have HX := Lib.hid hx
  have i1 := ix_of (P := Tryd.prog) tabO.under tabO.size (fun h0 => (hx.ptr h0).2) c
  obtain ⟨hR0, hR1, hl6, hok⟩ := valid_ok hv
  obtain ⟨r, rfl⟩ : ∃ n : Nat, R = (n : Int) := ⟨R.toNat, by omega⟩
  have D0 : Hid (∀ wx, Calls Tryd.prog 57 #[.int .i64 r] wx (RetV wx (.string (decB r)))) := Lib.hid (fun wx => Decimal_c r (by omega) wx)
  have s0 := decB_size r
  have HP0 : Hid (progT (r : Int) os 0 = ⟨#[112, 114, 111, 103, 114, 97, 109, 32]⟩ ++ decB r ++ ⟨#[10]⟩) := Lib.hid rfl
  have HOK := Lib.hid hok
  have HSZ := Lib.hid (progT_size (r : Int) os)
  have zp := World.block_lt_of_cell? w _ hp0
  have HP1 := Lib.hid hp1
  clear hv hx hR0 hR1 hok hp1
  go_enter Tryd.func41, Tryd.ntmps41
  go_wp2_with fail
  refine (D0.out _).mono ?_
  rintro e w2 ⟨rfl, hb2⟩
  have HB2 := Lib.hid hb2
  clear hb2 hp0
  go_wp2
  go_loopw [3, 4, 5] (fun s i _ wr => ∃ k : Nat, k ≤ os.length ∧ i = .int .i64 k ∧ s = .string (progT (r : Int) os k) ∧ Hid (Below w.heap.size w wr)) (fun _ i _ _ => os.length - (intOf i).toNat)
  case atStart => exact ⟨0, Nat.zero_le _, rfl, by rw [HP0.out], HB2⟩
  case round =>
    obtain ⟨k, hk, rfl, rfl, HB⟩ := hrel
    have f1 := (bcell1 HB.out zp).trans HP1.out
    by_cases hlt : k < os.length
    · have hki : (k : Int) < os.length := by omega
      have hsl := HX.out.below HB.out
      have g0 := hsl.c0 k hlt
      have g1 := hsl.c1 k hlt
      have g2 := hsl.c2 k hlt
      have g3 := hsl.c3 k hlt
      obtain ⟨o, ho⟩ : ∃ o, o = nthO os k := ⟨_, rfl⟩
      rw [← ho] at g0 g1 g2 g3
      obtain ⟨hop, hr, ht, he⟩ : OkO o := by rw [ho]; exact HOK.out k hlt
      obtain ⟨b, hb⟩ : ∃ b, b = progT (r : Int) os k := ⟨_, rfl⟩
      have HN : Hid (b ++ (ordT o ++ ⟨#[10]⟩) = progT (r : Int) os (k + 1)) := Lib.hid (by rw [hb, ho]; rfl)
      have hbs : b.size ≤ 70 := by have := HSZ.out k; rw [hb]; omega
      rw [← hb]
      clear hsl ho hb
      obtain ⟨op, reg, to, els⟩ := o
      simp only at hop hr ht he g0 g1 g2 g3
      obtain ⟨q, rfl⟩ : ∃ n : Nat, reg = (n : Int) := ⟨reg.toNat, by omega⟩
      obtain ⟨t, rfl⟩ : ∃ n : Nat, to = (n : Int) := ⟨to.toNat, by omega⟩
      obtain ⟨l, rfl⟩ : ∃ n : Nat, els = (n : Int) := ⟨els.toNat, by omega⟩
      have s1 := decB_size q
      have s2 := decB_size t
      have s3 := decB_size l
      have hz := HB.out.size
      have HBA : Hid (∀ X, Below w.heap.size w (wr.alloc X)) := Lib.hid (fun X => HB.out.alloc hz X)
      rcases hop with rfl | rfl | rfl
      rotate_left 2
      · have HM : Hid (b ++ ⟨#[104, 97, 108, 116, 10]⟩ = progT (r : Int) os (k + 1)) := Lib.hid (by rw [← HN.out]; rfl)
        clear hr ht he
        go_wp2
        first
          | (go_roundw
             case rel => exact ⟨k + 1, by omega, by go_num, by rw [HM.out], HBA.out _⟩
             case measure => simp [intOf]; omega)
          | (refine ⟨⟨k + 1, by omega, by go_num, by rw [HM.out], HBA.out _⟩, ?_⟩
             simp [intOf]; omega)
      · have HM : Hid (b ++ ⟨#[97, 100, 100, 32]⟩ ++ (decB q ++ ⟨#[32]⟩ ++ decB t ++ ⟨#[32]⟩ ++ decB l ++ ⟨#[10]⟩) = progT (r : Int) os (k + 1)) := Lib.hid (by rw [← HN.out]; simp [ordT, ByteArray.append_assoc])
        have D1 : Hid (∀ x : Wd (wr.alloc (.cells #[.int .i64 1, .int .i64 (q : Int), .int .i64 (t : Int), .int .i64 (l : Int)] 60)), Calls Tryd.prog 57 #[.int .i64 q] (wat x) (RetV (wat x) (.string (decB q)))) := Lib.hid (fun x => Decimal_c q (by omega) (wat x))
        have D2 : Hid (∀ x : Wd (wr.alloc (.cells #[.int .i64 1, .int .i64 (q : Int), .int .i64 (t : Int), .int .i64 (l : Int)] 60)), Calls Tryd.prog 57 #[.int .i64 t] (wat x) (RetV (wat x) (.string (decB t)))) := Lib.hid (fun x => Decimal_c t (by omega) (wat x))
        have D3 : Hid (∀ x : Wd (wr.alloc (.cells #[.int .i64 1, .int .i64 (q : Int), .int .i64 (t : Int), .int .i64 (l : Int)] 60)), Calls Tryd.prog 57 #[.int .i64 l] (wat x) (RetV (wat x) (.string (decB l)))) := Lib.hid (fun x => Decimal_c l (by omega) (wat x))
        have q1 := wat_cell (show (wr.alloc (.cells #[.int .i64 1, .int .i64 (q : Int), .int .i64 (t : Int), .int .i64 (l : Int)] 60)).cell? ⟨wr.heap.size, 1, none⟩ = some (.int .i64 (q : Int)) by simp [go_sem])
        have q2 := wat_cell (show (wr.alloc (.cells #[.int .i64 1, .int .i64 (q : Int), .int .i64 (t : Int), .int .i64 (l : Int)] 60)).cell? ⟨wr.heap.size, 2, none⟩ = some (.int .i64 (t : Int)) by simp [go_sem])
        have q3 := wat_cell (show (wr.alloc (.cells #[.int .i64 1, .int .i64 (q : Int), .int .i64 (t : Int), .int .i64 (l : Int)] 60)).cell? ⟨wr.heap.size, 3, none⟩ = some (.int .i64 (l : Int)) by simp [go_sem])
        clear hr ht he
        go_wp2
        refine wp_quiet_wd (by kernel_rfl) (by kernel_rfl) ?_
        repeat (go_big_quiet_step (first | with_reducible exact wdV (D1.out _) | with_reducible exact wdV (D2.out _) | with_reducible exact wdV (D3.out _)))
        refine wpQuiet_nil ?_
        rintro _ ⟨wq, rfl⟩
        have HB9 : Hid (Below w.heap.size w (wat wq)) := Lib.hid (bnext (HBA.out _) (wat_below wq) (Nat.le_refl _))
        go_wp2
        first
          | (go_roundw
             case rel => exact ⟨k + 1, by omega, by go_num, by rw [HM.out], HB9⟩
             case measure => simp [intOf]; omega)
          | (refine ⟨⟨k + 1, by omega, by go_num, by rw [HM.out], HB9⟩, ?_⟩
             simp [intOf]; omega)
      · have HM : Hid (b ++ ⟨#[115, 117, 98, 32]⟩ ++ (decB q ++ ⟨#[32]⟩ ++ decB t ++ ⟨#[32]⟩ ++ decB l ++ ⟨#[10]⟩) = progT (r : Int) os (k + 1)) := Lib.hid (by rw [← HN.out]; simp [ordT, ByteArray.append_assoc])
        have D1 : Hid (∀ x : Wd (wr.alloc (.cells #[.int .i64 2, .int .i64 (q : Int), .int .i64 (t : Int), .int .i64 (l : Int)] 60)), Calls Tryd.prog 57 #[.int .i64 q] (wat x) (RetV (wat x) (.string (decB q)))) := Lib.hid (fun x => Decimal_c q (by omega) (wat x))
        have D2 : Hid (∀ x : Wd (wr.alloc (.cells #[.int .i64 2, .int .i64 (q : Int), .int .i64 (t : Int), .int .i64 (l : Int)] 60)), Calls Tryd.prog 57 #[.int .i64 t] (wat x) (RetV (wat x) (.string (decB t)))) := Lib.hid (fun x => Decimal_c t (by omega) (wat x))
        have D3 : Hid (∀ x : Wd (wr.alloc (.cells #[.int .i64 2, .int .i64 (q : Int), .int .i64 (t : Int), .int .i64 (l : Int)] 60)), Calls Tryd.prog 57 #[.int .i64 l] (wat x) (RetV (wat x) (.string (decB l)))) := Lib.hid (fun x => Decimal_c l (by omega) (wat x))
        have q1 := wat_cell (show (wr.alloc (.cells #[.int .i64 2, .int .i64 (q : Int), .int .i64 (t : Int), .int .i64 (l : Int)] 60)).cell? ⟨wr.heap.size, 1, none⟩ = some (.int .i64 (q : Int)) by simp [go_sem])
        have q2 := wat_cell (show (wr.alloc (.cells #[.int .i64 2, .int .i64 (q : Int), .int .i64 (t : Int), .int .i64 (l : Int)] 60)).cell? ⟨wr.heap.size, 2, none⟩ = some (.int .i64 (t : Int)) by simp [go_sem])
        have q3 := wat_cell (show (wr.alloc (.cells #[.int .i64 2, .int .i64 (q : Int), .int .i64 (t : Int), .int .i64 (l : Int)] 60)).cell? ⟨wr.heap.size, 3, none⟩ = some (.int .i64 (l : Int)) by simp [go_sem])
        clear hr ht he
        go_wp2
        refine wp_quiet_wd (by kernel_rfl) (by kernel_rfl) ?_
        repeat (go_big_quiet_step (first | with_reducible exact wdV (D1.out _) | with_reducible exact wdV (D2.out _) | with_reducible exact wdV (D3.out _)))
        refine wpQuiet_nil ?_
        rintro _ ⟨wq, rfl⟩
        have HB9 : Hid (Below w.heap.size w (wat wq)) := Lib.hid (bnext (HBA.out _) (wat_below wq) (Nat.le_refl _))
        go_wp2
        first
          | (go_roundw
             case rel => exact ⟨k + 1, by omega, by go_num, by rw [HM.out], HB9⟩
             case measure => simp [intOf]; omega)
          | (refine ⟨⟨k + 1, by omega, by go_num, by rw [HM.out], HB9⟩, ?_⟩
             simp [intOf]; omega)
    · obtain rfl : k = os.length := by omega
      go_wp2
      go_ret
      exact ⟨rfl, HB.out⟩
theorem implProgramText_d (R : Int) (os : List Ord) {vo : Value} (w : World) (h1 : Rd Any w (dO os) vo) :
    Calls Tryd.prog 47 #[.agg #[.int .i64 R, vo]] w (RetV w (.string (textB R os))) := by
  obtain ⟨a, c, rfl, h⟩ := Rd_O.1 h1
  exact implProgramText_c R os a c w h
