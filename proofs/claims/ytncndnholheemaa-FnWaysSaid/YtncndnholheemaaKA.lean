/- A bound on the configs that small programs reach, as a computation: sets of configs as bits of one number. No program is in sight. Written by mkways.py. -/
import Derived.Lib.Hide
namespace Go.Proofs.Ytncndnholheemaa

/-- An order as it is looked at here: a step by d to the places T; or a test of a register, with the places for what is left and for zero. -/
inductive AO where
  | a (d : Nat) (T : List Nat)
  | s0 (T E : List Nat)
  | s1 (T E : List Nat)
noncomputable def sprd (X : Nat) (l : List Nat) : Nat → Nat := List.rec (motive := fun _ => Nat → Nat) (fun acc => acc) (fun a _ ih acc => ih (Nat.lor acc (Nat.shiftLeft X a))) l
noncomputable def stp (P : Nat) (o : AO) (acc : Nat) : Nat :=
  AO.rec (motive := fun _ => Nat) (fun d T => sprd (Nat.shiftLeft P d) T acc) (fun T E => sprd (Nat.land P (nat_lit 95782432828056470036404813049632508065954916372381697)) E (sprd (Nat.shiftRight (Nat.land P (nat_lit 6277005952953852707365753018394616783594289489547662131198)) (nat_lit 1)) T acc)) (fun T E => sprd (Nat.land P (nat_lit 65535)) E (sprd (Nat.shiftRight P (nat_lit 16)) T acc)) o
noncomputable def rndA (l : List AO) : Nat → Nat → Nat := List.rec (motive := fun _ => Nat → Nat → Nat) (fun _ acc => acc) (fun o _ ih S acc => ih (Nat.shiftRight S (nat_lit 192)) (stp (Nat.land S (nat_lit 6277101735386680763835789423207666416102355444464034512895)) o acc)) l
noncomputable def itA (os : List AO) (k : Nat) : Nat → Nat := Nat.rec (motive := fun _ => Nat → Nat) (fun S => S) (fun _ ih S => ih (rndA os S S)) k
noncomputable def hfA (b M S : Nat) : Nat := Nat.add (Nat.land S M) (Nat.land (Nat.shiftRight S b) M)
noncomputable def popA (S : Nat) : Nat := Nat.mod (hfA (nat_lit 8) (nat_lit 699491492164325255925799685131916238761858746670158199507510043415302240488330595847114697752558505918755306925569623959761827894219519931878783776807292312753960674804924067222965835024303868169078143782431929061627045456585458682777872025450689638767900819784382483423919244896808234649164810621105930495) (hfA (nat_lit 4) (nat_lit 10574665499190093574878265828170733727164570464366509251378240068101922106205939007806381018965149177712947875286552550450517045224377448381932201802322007316339287848521499133900130564779182007026651938357941515814008863667203698910230182972989837480197088863799194014114543878734100959107962137036719066895) (hfA (nat_lit 2) (nat_lit 35953862697246318154586103815780494672359539578846131454686016231546535161100192626541695464481507204224022775974278671531757953762883324498569486127894824875553578684973097055260443920249218823890616590417001153767630136468492576294782622108165447432670102136917259647989449187695943260967071265924844827443) (hfA (nat_lit 1) (nat_lit 59923104495410530257643506359634157787265899298076885757810027052577558601833654377569492440802512007040037959957131119219596589604805540830949143546491374792589297808288495092100739867082031373151027650695001922946050227447487627157971036846942412387783503561528766079982415312826572101611785443208074712405) S)))) (nat_lit 65535)
def kidsA (o : AO) (w : Nat) : List AO := match o, w with
  | .a d T, _ => [.a d (T.eraseIdx 0), .a d (T.eraseIdx 1), .a d (T.eraseIdx 2)]
  | .s0 T E, 0 => [.s0 (T.take ((T.length + 1) / 2)) E, .s0 (T.drop ((T.length + 1) / 2)) E]
  | .s0 T E, _ => [.s0 T (E.take ((E.length + 1) / 2)), .s0 T (E.drop ((E.length + 1) / 2))]
  | .s1 T E, 0 => [.s1 (T.take ((T.length + 1) / 2)) E, .s1 (T.drop ((T.length + 1) / 2)) E]
  | .s1 T E, _ => [.s1 T (E.take ((E.length + 1) / 2)), .s1 T (E.drop ((E.length + 1) / 2))]
noncomputable def runA : Nat → Nat → List AO → Nat → Bool × Nat
  | 0, c, _, _ => (false, c)
  | f + 1, c, os, S => match c % 16 with
    | 0 => (Nat.ble (popA (itA os (nat_lit 8) S)) (nat_lit 200), c / 16)
    | k + 1 => (kidsA (os.getD (k % 4) (.a 0 [])) (k / 4)).foldl (fun r o => match r with | (false, d) => (false, d) | (true, d) => runA f d (os.set (k % 4) o) S) (true, c / 16)
def allA : List Nat := [nat_lit 0, nat_lit 192, nat_lit 384, nat_lit 576, nat_lit 768]
def aoA (t : Nat) : AO := match t with | 0 => .a (nat_lit 1) allA | 1 => .a (nat_lit 16) allA | 2 => .s0 allA allA | _ => .s1 allA allA
def rootA (t : Nat) : List AO := [aoA (t % 4), aoA (t / 4 % 4), aoA (t / 16 % 4), aoA (t / 64)]
noncomputable def chkA (t c : Nat) : Bool := ((List.range 16).foldl (fun (r : Bool × Nat) i => match r with | (false, d) => (false, d) | (true, d) => runA 40 d (rootA t) (2 ^ (16 * (i / 4) + i % 4))) (true, c)).1
end Go.Proofs.Ytncndnholheemaa
