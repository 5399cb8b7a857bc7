/- What the computation of text KA says: bits and how many there are. No program is in sight. -/
import Derived.Test.YtncndnholheemaaKA
namespace Go.Proofs.Ytncndnholheemaa

theorem sprd_nil (X acc : Nat) : sprd X [] acc = acc := rfl
theorem sprd_cons (X a : Nat) (l : List Nat) (acc : Nat) : sprd X (a :: l) acc = sprd X l (acc ||| (X <<< a)) := rfl
theorem sprd_keep (X : Nat) : ∀ (l : List Nat) (acc i : Nat), acc.testBit i = true → (sprd X l acc).testBit i = true
  | [], acc, i, h => h
  | a :: l, acc, i, h => by rw [sprd_cons]; exact sprd_keep X l _ i (by rw [Nat.testBit_or, h]; rfl)
theorem sprd_hit {X j : Nat} (hX : X.testBit j = true) : ∀ (l : List Nat) (acc a : Nat), a ∈ l → (sprd X l acc).testBit (a + j) = true
  | [], acc, a, h => by simp at h
  | b :: l, acc, a, h => by
    rw [sprd_cons]
    rcases List.mem_cons.1 h with rfl | h
    · exact sprd_keep X l _ _ (by rw [Nat.testBit_or, Nat.testBit_shiftLeft]; simp [hX])
    · exact sprd_hit hX l _ a h
theorem stp_keep (P : Nat) (o : AO) (acc i : Nat) (h : acc.testBit i = true) : (stp P o acc).testBit i = true := by
  cases o with
  | a d T => exact sprd_keep _ _ _ _ h
  | s0 T E => exact sprd_keep _ _ _ _ (sprd_keep _ _ _ _ h)
  | s1 T E => exact sprd_keep _ _ _ _ (sprd_keep _ _ _ _ h)
theorem stp_a {P j d a : Nat} {T : List Nat} (acc : Nat) (h : P.testBit j = true) (ha : a ∈ T) : (stp P (.a d T) acc).testBit (a + (j + d)) = true := by
  show (sprd (P <<< d) T acc).testBit _ = true
  exact sprd_hit (by rw [Nat.testBit_shiftLeft]; simp [h]) T acc a ha
def nzM : Nat := 0xfffefffefffefffefffefffefffefffefffefffefffefffe
def zrM : Nat := 0x000100010001000100010001000100010001000100010001
theorem nzM_bit : ∀ r1, r1 < 12 → ∀ r0, r0 < 16 → 0 < r0 → nzM.testBit (16 * r1 + r0) = true := by decide +kernel
theorem zrM_bit : ∀ r1, r1 < 12 → zrM.testBit (16 * r1) = true := by decide +kernel
theorem stp_s0 {P r0 r1 a : Nat} {T E : List Nat} (acc : Nat) (h : P.testBit (16 * r1 + (r0 + 1)) = true) (h1 : r1 < 12) (h0 : r0 + 1 < 16) (ha : a ∈ T) : (stp P (.s0 T E) acc).testBit (a + (16 * r1 + r0)) = true := by
  show (sprd (P &&& zrM) E (sprd ((P &&& nzM) >>> 1) T acc)).testBit _ = true
  refine sprd_keep _ _ _ _ (sprd_hit ?_ T acc a ha)
  rw [Nat.testBit_shiftRight, show 1 + (16 * r1 + r0) = 16 * r1 + (r0 + 1) by omega, Nat.testBit_and, h, nzM_bit r1 h1 (r0 + 1) h0 (by omega)]; rfl
theorem stp_z0 {P r1 a : Nat} {T E : List Nat} (acc : Nat) (h : P.testBit (16 * r1) = true) (h1 : r1 < 12) (ha : a ∈ E) : (stp P (.s0 T E) acc).testBit (a + 16 * r1) = true := by
  show (sprd (P &&& zrM) E (sprd ((P &&& nzM) >>> 1) T acc)).testBit _ = true
  refine sprd_hit ?_ E _ a ha
  rw [Nat.testBit_and, h, zrM_bit r1 h1]; rfl
theorem stp_s1 {P r0 r1 a : Nat} {T E : List Nat} (acc : Nat) (h : P.testBit (16 * (r1 + 1) + r0) = true) (ha : a ∈ T) : (stp P (.s1 T E) acc).testBit (a + (16 * r1 + r0)) = true := by
  show (sprd (P &&& 65535) E (sprd (P >>> 16) T acc)).testBit _ = true
  refine sprd_keep _ _ _ _ (sprd_hit ?_ T acc a ha)
  rw [Nat.testBit_shiftRight, show 16 + (16 * r1 + r0) = 16 * (r1 + 1) + r0 by omega]; exact h
theorem stp_z1 {P r0 a : Nat} {T E : List Nat} (acc : Nat) (h : P.testBit r0 = true) (h0 : r0 < 16) (ha : a ∈ E) : (stp P (.s1 T E) acc).testBit (a + r0) = true := by
  show (sprd (P &&& 65535) E (sprd (P >>> 16) T acc)).testBit _ = true
  refine sprd_hit ?_ E _ a ha
  rw [Nat.testBit_and, h, show (65535 : Nat) = 2 ^ 16 - 1 from rfl, Nat.testBit_two_pow_sub_one]; simp [h0]
theorem rndA_cons (o : AO) (l : List AO) (S acc : Nat) : rndA (o :: l) S acc = rndA l (S >>> 192) (stp (S &&& (2 ^ 192 - 1)) o acc) := rfl
theorem rndA_keep : ∀ (l : List AO) (S acc i : Nat), acc.testBit i = true → (rndA l S acc).testBit i = true
  | [], _, _, _, h => h
  | o :: l, S, acc, i, h => by rw [rndA_cons]; exact rndA_keep l _ _ i (stp_keep _ _ _ _ h)
theorem rndA_hit : ∀ (l : List AO) (S acc q i : Nat) (o : AO), l[q]? = some o → (∀ acc', (stp ((S >>> (192 * q)) &&& (2 ^ 192 - 1)) o acc').testBit i = true) → (rndA l S acc).testBit i = true
  | [], _, _, q, _, _, h, _ => by simp at h
  | x :: l, S, acc, 0, i, o, h, ho => by
    simp at h; subst h
    rw [rndA_cons]
    exact rndA_keep l _ _ i (by have := ho acc; simpa using this)
  | x :: l, S, acc, q + 1, i, o, h, ho => by
    rw [rndA_cons]
    refine rndA_hit l _ _ q i o (by simpa using h) (fun acc' => ?_)
    rw [← Nat.shiftRight_add, show 192 + 192 * q = 192 * (q + 1) by omega]
    exact ho acc'
theorem itA_zero (os : List AO) (S : Nat) : itA os 0 S = S := rfl
theorem itA_front (os : List AO) (k S : Nat) : itA os (k + 1) S = itA os k (rndA os S S) := rfl
theorem itA_succ (os : List AO) : ∀ (k S : Nat), itA os (k + 1) S = rndA os (itA os k S) (itA os k S)
  | 0, S => rfl
  | k + 1, S => by rw [itA_front, itA_succ os k, ← itA_front]
theorem itA_keep (os : List AO) (S i : Nat) : ∀ (k d : Nat), (itA os k S).testBit i = true → (itA os (k + d) S).testBit i = true
  | k, 0, h => h
  | k, d + 1, h => by rw [← Nat.add_assoc, itA_succ]; exact rndA_keep _ _ _ _ (itA_keep os S i k d h)
/-- The sum of the first n digits of b bits. -/
def ds (b : Nat) : Nat → Nat → Nat
  | 0, _ => 0
  | n + 1, x => x % 2 ^ b + ds b n (x / 2 ^ b)
/-- The mask of every second digit. -/
def mskA (b : Nat) : Nat → Nat
  | 0 => 0
  | n + 1 => (2 ^ b - 1) + 2 ^ (2 * b) * mskA b n
theorem land_split {k x m : Nat} (hx : x < 2 ^ k) (hm : m < 2 ^ k) (y n : Nat) : (x + 2 ^ k * y) &&& (m + 2 ^ k * n) = (x &&& m) + 2 ^ k * (y &&& n) := by
  have hxm : x &&& m < 2 ^ k := Nat.lt_of_le_of_lt Nat.and_le_left hx
  apply Nat.eq_of_testBit_eq
  intro j
  rw [Nat.testBit_and, Nat.add_comm x, Nat.add_comm m, Nat.add_comm (x &&& m), Nat.testBit_two_pow_mul_add _ hx, Nat.testBit_two_pow_mul_add _ hm, Nat.testBit_two_pow_mul_add _ hxm]
  split <;> rw [Nat.testBit_and]
theorem land_msk (b n x : Nat) (hb : 0 < b) : x &&& mskA b (n + 1) = x % 2 ^ b + 2 ^ (2 * b) * ((x / 2 ^ (2 * b)) &&& mskA b n) := by
  have hp : 2 ^ b ≤ 2 ^ (2 * b) := Nat.pow_le_pow_right (by omega) (by omega)
  have hb1 : 0 < 2 ^ b := Nat.two_pow_pos b
  have e : x = x % 2 ^ (2 * b) + 2 ^ (2 * b) * (x / 2 ^ (2 * b)) := (Nat.mod_add_div _ _).symm
  have h1 := land_split (k := 2 * b) (x := x % 2 ^ (2 * b)) (m := 2 ^ b - 1) (Nat.mod_lt _ (Nat.two_pow_pos _)) (by omega) (x / 2 ^ (2 * b)) (mskA b n)
  rw [← e] at h1
  rw [mskA, h1, Nat.and_two_pow_sub_one_eq_mod, Nat.mod_mod_of_dvd _ (Nat.pow_dvd_pow 2 (by omega))]
theorem ds_half (b : Nat) (hb : 0 < b) : ∀ (n x : Nat), ds (2 * b) n (hfA b (mskA b n) x) = ds b (2 * n) x
  | 0, x => rfl
  | n + 1, x => by
    have ih := ds_half b hb n (x / 2 ^ (2 * b))
    have hpos : 0 < 2 ^ b := Nat.two_pow_pos b
    have h2b : 2 ^ (2 * b) = 2 ^ b * 2 ^ b := by rw [← Nat.pow_add]; congr 1; omega
    have h2 : 2 ≤ 2 ^ b := by
      have := Nat.pow_le_pow_right (n := 2) (by omega) hb
      simpa using this
    have d0 : x % 2 ^ b < 2 ^ b := Nat.mod_lt _ hpos
    have d1 : x / 2 ^ b % 2 ^ b < 2 ^ b := Nat.mod_lt _ hpos
    have hsum : x % 2 ^ b + x / 2 ^ b % 2 ^ b < 2 ^ (2 * b) := by
      rw [h2b]
      have := Nat.mul_le_mul h2 (Nat.le_refl (2 ^ b))
      omega
    have e : hfA b (mskA b (n + 1)) x = (x % 2 ^ b + x / 2 ^ b % 2 ^ b) + 2 ^ (2 * b) * hfA b (mskA b n) (x / 2 ^ (2 * b)) := by
      show (x &&& mskA b (n + 1)) + ((x >>> b) &&& mskA b (n + 1)) = _ + 2 ^ (2 * b) * (((x / 2 ^ (2 * b)) &&& mskA b n) + (((x / 2 ^ (2 * b)) >>> b) &&& mskA b n))
      rw [land_msk b n x hb, land_msk b n (x >>> b) hb, Nat.shiftRight_eq_div_pow, Nat.shiftRight_eq_div_pow, Nat.div_div_eq_div_mul, Nat.div_div_eq_div_mul, Nat.mul_comm (2 ^ b) (2 ^ (2 * b)), Nat.mul_add]
      omega
    rw [ds, e, Nat.add_mul_mod_self_left, Nat.mod_eq_of_lt hsum, Nat.add_mul_div_left _ _ (Nat.two_pow_pos _), Nat.div_eq_of_lt hsum, Nat.zero_add, ih]
    rw [show 2 * (n + 1) = 2 * n + 1 + 1 by omega, ds, ds, Nat.div_div_eq_div_mul, ← h2b]
    omega
theorem ds_le (n : Nat) : ∀ x, ds 1 n x ≤ n := by
  induction n with
  | zero => intro x; simp [ds]
  | succ n ih =>
    intro x
    have := ih (x / 2 ^ 1)
    have h : x % 2 ^ 1 < 2 ^ 1 := Nat.mod_lt _ (by decide)
    rw [ds]
    omega
theorem ds_mod : ∀ (n x : Nat), x < 2 ^ (16 * n) → x % 65535 = ds 16 n x % 65535
  | 0, x, h => by
    have : x = 0 := by simpa using h
    subst this; rfl
  | n + 1, x, h => by
    have h2 : x / 2 ^ 16 < 2 ^ (16 * n) := by
      rw [Nat.div_lt_iff_lt_mul (Nat.two_pow_pos _), ← Nat.pow_add, show 16 * n + 16 = 16 * (n + 1) by omega]; exact h
    have ih := ds_mod n (x / 2 ^ 16) h2
    rw [ds, Nat.add_mod, ← ih, ← Nat.add_mod]
    have e := Nat.mod_add_div x (2 ^ 16)
    have e2 : x = x % 2 ^ 16 + x / 2 ^ 16 + 65535 * (x / 2 ^ 16) := by omega
    conv => lhs; rw [e2]
    rw [Nat.add_mul_mod_self_left]
def m1A : Nat := 59923104495410530257643506359634157787265899298076885757810027052577558601833654377569492440802512007040037959957131119219596589604805540830949143546491374792589297808288495092100739867082031373151027650695001922946050227447487627157971036846942412387783503561528766079982415312826572101611785443208074712405
def m2A : Nat := 35953862697246318154586103815780494672359539578846131454686016231546535161100192626541695464481507204224022775974278671531757953762883324498569486127894824875553578684973097055260443920249218823890616590417001153767630136468492576294782622108165447432670102136917259647989449187695943260967071265924844827443
def m4A : Nat := 10574665499190093574878265828170733727164570464366509251378240068101922106205939007806381018965149177712947875286552550450517045224377448381932201802322007316339287848521499133900130564779182007026651938357941515814008863667203698910230182972989837480197088863799194014114543878734100959107962137036719066895
def m8A : Nat := 699491492164325255925799685131916238761858746670158199507510043415302240488330595847114697752558505918755306925569623959761827894219519931878783776807292312753960674804924067222965835024303868169078143782431929061627045456585458682777872025450689638767900819784382483423919244896808234649164810621105930495
theorem m1A_eq : m1A = mskA 1 512 := by decide +kernel
theorem m2A_eq : m2A = mskA 2 256 := by decide +kernel
theorem m4A_eq : m4A = mskA 4 128 := by decide +kernel
theorem m8A_eq : m8A = mskA 8 64 := by decide +kernel
theorem popA_unf (S : Nat) : popA S = hfA 8 m8A (hfA 4 m4A (hfA 2 m2A (hfA 1 m1A S))) % 65535 := by
  rfl
theorem popA_eq (S : Nat) : popA S = ds 1 1024 S := by
  rw [popA_unf]
  have e1 : ds 2 512 (hfA 1 m1A S) = ds 1 1024 S := by rw [m1A_eq]; exact ds_half 1 (by decide) 512 S
  have e2 : ∀ x, ds 4 256 (hfA 2 m2A x) = ds 2 512 x := fun x => by rw [m2A_eq]; exact ds_half 2 (by decide) 256 x
  have e3 : ∀ x, ds 8 128 (hfA 4 m4A x) = ds 4 256 x := fun x => by rw [m4A_eq]; exact ds_half 4 (by decide) 128 x
  have e4 : ∀ x, ds 16 64 (hfA 8 m8A x) = ds 8 128 x := fun x => by rw [m8A_eq]; exact ds_half 8 (by decide) 64 x
  have hlt : ∀ x, hfA 8 m8A x < 2 ^ (16 * 64) := fun x => by
    have h1 : x &&& m8A ≤ m8A := Nat.and_le_right
    have h2 : (x >>> 8) &&& m8A ≤ m8A := Nat.and_le_right
    have h3 : m8A + m8A < 2 ^ (16 * 64) := by decide +kernel
    show (x &&& m8A) + ((x >>> 8) &&& m8A) < _
    omega
  rw [ds_mod 64 _ (hlt _), e4, e3, e2, e1]
  exact Nat.mod_eq_of_lt (by have := ds_le 1024 S; omega)
theorem nodup_len : ∀ (l m : List Nat), l.Nodup → (∀ a, a ∈ l → a ∈ m) → l.length ≤ m.length
  | [], _, _, _ => by simp
  | a :: l, m, hn, hs => by
    obtain ⟨h1, h2⟩ := List.nodup_cons.1 hn
    have ha := hs a (by simp)
    have ih := nodup_len l (m.erase a) h2 (fun b hb => (List.mem_erase_of_ne (fun e => h1 (by rw [← e]; exact hb))).2 (hs b (by simp [hb])))
    rw [List.length_erase_of_mem ha] at ih
    have : 0 < m.length := List.length_pos_of_mem ha
    simp only [List.length_cons]; omega
/-- The places of the bits. -/
def bitsA (n x : Nat) : List Nat := (List.range n).filter fun i => x.testBit i
theorem ds_bits : ∀ (n x : Nat), (bitsA n x).length = ds 1 n x
  | 0, x => by simp [bitsA, ds]
  | n + 1, x => by
    have ih := ds_bits n (x / 2 ^ 1)
    rw [ds, ← ih]
    unfold bitsA
    rw [List.range_succ_eq_map, List.filter_cons, List.filter_map, ]
    have e : ((fun i => x.testBit i) ∘ Nat.succ) = fun i => (x / 2 ^ 1).testBit i := by
      funext i
      simp [Function.comp, Nat.testBit_succ]
    rw [e]
    have h0 : x.testBit 0 = decide (x % 2 = 1) := Nat.testBit_zero x
    rw [h0]
    by_cases h : x % 2 = 1
    · simp [h]; omega
    · have : x % 2 = 0 := by omega
      simp [this]
/-- Different bits are no more than there are. -/
theorem bits_le {S : Nat} {l : List Nat} (hn : l.Nodup) (hb : ∀ i, i ∈ l → i < 1024 ∧ S.testBit i = true) : l.length ≤ popA S := by
  rw [popA_eq, ← ds_bits]
  exact nodup_len l _ hn fun i hi => List.mem_filter.2 ⟨List.mem_range.2 (hb i hi).1, (hb i hi).2⟩
end Go.Proofs.Ytncndnholheemaa
