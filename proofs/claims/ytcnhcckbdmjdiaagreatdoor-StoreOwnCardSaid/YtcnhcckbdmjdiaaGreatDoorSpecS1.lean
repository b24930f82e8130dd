/- The disk and the store, in plain Lean: what each call does. -/
import Derived.Test.YtcnhcckbdmjdiaaGreatDoorSpec12
import Derived.Test.YtcnhcckbdmjdiaaGreatDoorEng18
set_option linter.all false
set_option linter.unusedSimpArgs false
set_option linter.unusedVariables false
namespace Go.Stet
open Go Go.Eng
/-- a write that waits, or was done -/
structure Wr where
  i : Int
  s : Str
instance : Inhabited Wr := ⟨⟨0, []⟩⟩
def RWr : Rp Wr := ⟨2, fun _ x cs => cs = [.int .i64 x.i, .string (B x.s)], fun _ _ _ h => by subst h; rfl, fun _ _ _ _ _ h => h, fun _ _ _ h => by subst h; rfl⟩
theorem RWr_free : RWr.Free := fun _ _ _ _ h => h
theorem RFile_free : RFile.Free := fun _ _ _ _ h => h
/-- a map of writes by sectors -/
def Mwr : MapK Int Wr := ⟨.int .i64, fun k => .int .i64 k, fun x => .agg #[.int .i64 x.i, .string (B x.s)], fun a b h => by injection h, fun _ => rfl⟩
structure Dsk where
  is : Bool
  left : Int
  n : Int
  held : Int → Option Wr
  pend : List Wr
structure Sto where
  g0 : Int
  z0 : Int
  g1 : Int
  z1 : Int
  files : List File
def newD (n : Int) : Dsk := ⟨false, 0, n, fun _ => none, []⟩
/-- may not go on -/
def outD (d : Dsk) : Bool := d.is && decide (d.left < 1)
def useL (d : Dsk) : Int := if outD d then d.left else IntKind.i64.wrap (d.left - 1)
def hasD (d : Dsk) (i : Int) : Bool := decide (0 ≤ i) && decide (i < d.n)
def wrD (d : Dsk) (i : Int) (s : Str) : Dsk × Int :=
  if hasD d i = false then (d, 1) else if 64 < s.length then (d, 3) else if outD d then (⟨d.is, useL d, d.n, d.held, d.pend⟩, 8) else (⟨d.is, useL d, d.n, d.held, d.pend ++ [⟨i, s⟩]⟩, 0)
def doD (d : Dsk) (x : Wr) : Dsk := { d with held := fputo d.held x.i x }
def doAll (f : Int → Option Wr) : List Wr → Int → Option Wr
  | [] => f
  | x :: l => doAll (fputo f x.i x) l
def syncD (d : Dsk) : Dsk × Int := if outD d then (⟨d.is, useL d, d.n, d.held, d.pend⟩, 8) else (⟨d.is, useL d, d.n, doAll d.held d.pend, []⟩, 0)
def limD (d : Dsk) (n : Int) : Dsk := { d with is := true, left := n }
/-- those that a crash keeps -/
def doSome (f : Int → Option Wr) : List Wr → List Bool → Int → Option Wr
  | [], _ => f
  | _ :: _, [] => f
  | x :: l, k :: ks => doSome (if k then fputo f x.i x else f) l ks
def crashD (d : Dsk) (keep : List Bool) : Dsk := ⟨false, 0, d.n, doSome d.held d.pend keep, []⟩
def secF (f : Int → Option Wr) (i : Int) : Str := match f i with | some x => x.s | none => []
def readD (d : Dsk) (i : Int) : Str × Int := if hasD d i = false then ([], 1) else (secF d.held i, 0)
theorem useL_no {d : Dsk} (h : outD d = true) : useL d = d.left := by unfold useL; rw [if_pos h]
theorem useL_yes {d : Dsk} (h : outD d = false) : useL d = IntKind.i64.wrap (d.left - 1) := by unfold useL; rw [h]; rfl
theorem look_wr (f : Int → Option Wr) (k : Int) : lookV Mwr (.agg #[.int .i64 0, .string (B [])]) f k = .agg #[.int .i64 (match f k with | some x => x.i | none => 0), .string (B (secF f k))] := by
  unfold lookV secF; cases f k <;> rfl
theorem doAll_step {l : List Wr} {i : Nat} {x : Wr} (h : l[i]? = some x) (f : Int → Option Wr) : doAll f (l.drop i) = doAll (fputo f x.i x) (l.drop (i + 1)) := by
  rw [drop_cons h]; rfl
theorem doAll_end {l : List Wr} {i : Nat} (h : l.length ≤ i) (f : Int → Option Wr) : doAll f (l.drop i) = f := by rw [drop_nil h]; rfl
theorem doSome_yes {l : List Wr} {k : List Bool} {i : Nat} {x : Wr} (h : l[i]? = some x) (hk : k[i]? = some true) (f : Int → Option Wr) : doSome f (l.drop i) (k.drop i) = doSome (fputo f x.i x) (l.drop (i + 1)) (k.drop (i + 1)) := by
  rw [drop_cons h, drop_cons hk]; rfl
theorem doSome_no {l : List Wr} {k : List Bool} {i : Nat} {x : Wr} (h : l[i]? = some x) (hk : k[i]? = some false) (f : Int → Option Wr) : doSome f (l.drop i) (k.drop i) = doSome f (l.drop (i + 1)) (k.drop (i + 1)) := by
  rw [drop_cons h, drop_cons hk]; rfl
theorem doSome_out {l : List Wr} {k : List Bool} {i : Nat} (hk : k.length ≤ i) (f : Int → Option Wr) : doSome f (l.drop i) (k.drop i) = f := by
  rw [drop_nil hk]; cases l.drop i <;> rfl
theorem doSome_end {l : List Wr} {k : List Bool} {i : Nat} (h : l.length ≤ i) (f : Int → Option Wr) : doSome f (l.drop i) (k.drop i) = f := by rw [drop_nil h]; rfl
theorem crash_yes {k : List Bool} {i : Nat} {z : Bool} (c : (i : Int) < (k.length : Int) ∧ z = true) (hz : k[i]? = some z) : k[i]? = some true := by rw [hz, c.2]
theorem crash_no {l : List Wr} {k : List Bool} {i : Nat} {x : Wr} (h : l[i]? = some x) (c : ¬ ((i : Int) < (k.length : Int) ∧ k.getD i false = true)) (f : Int → Option Wr) : doSome f (l.drop i) (k.drop i) = doSome f (l.drop (i + 1)) (k.drop (i + 1)) := by
  rcases Nat.lt_or_ge i k.length with hi | hi
  · obtain ⟨z, hz⟩ := some_of_lt hi
    have : z = false := by
      cases z with
      | false => rfl
      | true => exact absurd ⟨by omega, by rw [List.getD_eq_getElem?_getD, hz]; rfl⟩ c
    subst this
    exact doSome_no h hz f
  · rw [doSome_out hi, doSome_out (by omega)]
theorem file_ext {a b : File} (h : a.name = b.name ∧ a.text = b.text) : a = b := by cases a; cases b; simp at h; simp [h]
instance : DecidableEq File := fun a b => if h : a.name = b.name ∧ a.text = b.text then isTrue (file_ext h) else isFalse fun e => h (by subst e; exact ⟨rfl, rfl⟩)
/-! ### the store -/
def halfS (n : Int) : Int := (n - 2).tdiv 2
def roomS (n : Int) : Int := if n < 4 then 0 else 64 * ((min n 4096 - 2) / 2)
def hdText (g z : Int) : Str := putS (Lib.itoa g) ++ putS (Lib.itoa z)
def nowS (s : Sto) : Int := if s.g0 < s.g1 then 1 else 0
/-- the writes of a text, from a sector on; what is left of it -/
def layF (d : Dsk) (a : Int) : Nat → Int → Str → Dsk × Int
  | 0, _, _ => (d, 0)
  | k + 1, i, t => if t = [] then (d, 0) else if (wrD d (a + i) (t.take 64)).2 ≠ 0 then wrD d (a + i) (t.take 64) else layF (wrD d (a + i) (t.take 64)).1 a k (i + 1) (t.drop 64)
abbrev fromS (d : Dsk) (at_ : Int) : Int := 2 + at_ * ((d.n - 2) / 2)
def layS (d : Dsk) (at_ : Int) (t : Str) : Dsk × Int :=
  if (layF d (2 + at_ * ((d.n - 2) / 2)) (t.length + 1) 0 t).2 ≠ 0 then layF d (2 + at_ * ((d.n - 2) / 2)) (t.length + 1) 0 t else syncD (layF d (2 + at_ * ((d.n - 2) / 2)) (t.length + 1) 0 t).1
def putHd (s : Sto) (at_ g z : Int) : Sto := if at_ = 0 then { s with g0 := g, z0 := z } else { s with g1 := g, z1 := z }
def comS (d : Dsk) (s : Sto) (l : List File) : Dsk × Sto × Int :=
  if rightS l = false then (d, s, 5) else
  if roomS d.n < (filesS l).length then (d, s, 7) else
  let a := 1 - nowS s
  let g := max s.g0 s.g1 + 1
  let z : Int := (filesS l).length
  if (layS d a (filesS l)).2 ≠ 0 then ((layS d a (filesS l)).1, s, (layS d a (filesS l)).2) else
  if (wrD (layS d a (filesS l)).1 a (hdText g z)).2 ≠ 0 then ((wrD (layS d a (filesS l)).1 a (hdText g z)).1, s, (wrD (layS d a (filesS l)).1 a (hdText g z)).2) else
  if (syncD (wrD (layS d a (filesS l)).1 a (hdText g z)).1).2 ≠ 0 then ((syncD (wrD (layS d a (filesS l)).1 a (hdText g z)).1).1, s, (syncD (wrD (layS d a (filesS l)).1 a (hdText g z)).1).2) else
  ((syncD (wrD (layS d a (filesS l)).1 a (hdText g z)).1).1, { putHd s a g z with files := l }, 0)
/-- a head as it is read -/
def HdAt (t : Str) (g z : Int) : Prop := (t = [] ∧ g = 0 ∧ z = 0) ∨ (t = hdText g z ∧ 0 ≤ g ∧ g ≤ 1000000 ∧ 0 ≤ z ∧ z ≤ 1000000)
/-- a text lies in a row of sectors -/
def LiesAt (f : Int → Option Wr) (a : Int) (t : Str) : Prop := ∀ i : Nat, i * 64 < t.length → secF f (a + i) = (t.drop (i * 64)).take 64
theorem rightS_le {l : List File} (h : rightS l = true) : l.length ≤ 32 ∧ ∀ x ∈ l, x.name.length ≤ 24 ∧ x.text.length ≤ 4000 := by
  unfold rightS at h
  rw [Bool.and_eq_true, decide_eq_true_eq] at h
  refine ⟨h.2, ?_⟩
  have key : ∀ (l : List File) p, rightF p l = true → ∀ x ∈ l, x.name.length ≤ 24 ∧ x.text.length ≤ 4000 := by
    intro l
    induction l with
    | nil => intro p _ x hx; cases hx
    | cons a l ih =>
      intro p hp x hx
      rw [rightF_cons, Bool.and_eq_true, Bool.and_eq_true, Bool.and_eq_true] at hp
      rcases List.mem_cons.1 hx with hx | hx
      · subst hx
        have h1 := hp.1.1.1
        unfold nameS at h1
        simp only [Bool.and_eq_true, decide_eq_true_eq] at h1
        exact ⟨h1.2.2, of_decide_eq_true hp.1.1.2⟩
      · exact ih _ hp.2 x hx
  exact key l none h.1
theorem filesS_le {l : List File} (h : rightS l = true) : (filesS l).length ≤ 200000 := by
  have h0 := rightS_le h
  have key : ∀ l : List File, (∀ x ∈ l, x.name.length ≤ 24 ∧ x.text.length ≤ 4000) → (filesS l).length ≤ l.length * 5000 := by
    intro l
    induction l with
    | nil => intro _; exact Nat.le_refl _
    | cons a l ih =>
      intro h
      have h1 := ih fun x hx => h x (List.mem_cons_of_mem _ hx)
      have h2 := h a (List.mem_cons_self ..)
      have h3 := putS_len a.name (by omega)
      have h4 := putS_len a.text (by omega)
      have : filesS (a :: l) = putS a.name ++ putS a.text ++ filesS l := rfl
      rw [this]; simp only [List.length_append, List.length_cons]; omega
  have := key l h0.2
  omega
/-- files whose sizes are bounded -/
def SzG (l : List File) : Prop := l.length ≤ 1000 ∧ ∀ x ∈ l, x.name.length ≤ 100000 ∧ x.text.length ≤ 100000
theorem rightS_sz {l : List File} (h : rightS l = true) : SzG l := ⟨by have := (rightS_le h).1; omega, fun x hx => by have := (rightS_le h).2 x hx; omega⟩
theorem pairs_big (s : Str) (h : s.length ≤ 1000000) : (pairsS (allS s).1).length ≤ 1000000 ∧ ∀ x ∈ pairsS (allS s).1, x.name.length ≤ 9223372036854775807 ∧ x.text.length ≤ 9223372036854775807 := by
  have hb := allS_bd s
  refine ⟨?_, fun x hx => ?_⟩
  · have := pairsS_len (allS s).1; omega
  · have := pairsS_mem hx; have h1 := hb.1 _ this.1; have h2 := hb.1 _ this.2; omega
theorem wrD_n (d : Dsk) (i : Int) (s : Str) : (wrD d i s).1.n = d.n := by unfold wrD; split; rfl; split; rfl; split <;> rfl
theorem wrD_pend (d : Dsk) (i : Int) (s : Str) : (wrD d i s).1.pend.length ≤ d.pend.length + 1 := by
  unfold wrD; split
  · simp
  split
  · simp
  split <;> simp
theorem syncD_n (d : Dsk) : (syncD d).1.n = d.n := by unfold syncD; split <;> rfl
theorem syncD_pend (d : Dsk) : (syncD d).1.pend.length ≤ d.pend.length := by unfold syncD; split <;> simp
theorem take_min (u : Str) : u.take (min 64 u.length) = u.take 64 := by
  rcases Nat.le_total 64 u.length with h | h
  · rw [Nat.min_eq_left h]
  · rw [Nat.min_eq_right h, List.take_of_length_le (Nat.le_refl _), List.take_of_length_le h]
theorem drop_min (u : Str) : u.drop (min 64 u.length) = u.drop 64 := by
  rcases Nat.le_total 64 u.length with h | h
  · rw [Nat.min_eq_left h]
  · rw [Nat.min_eq_right h, drop_nil (Nat.le_refl _), drop_nil h]
theorem layF_err {d : Dsk} {a i : Int} {k : Nat} {u : Str} (hu : 0 < u.length) (hk : u.length < k) (he : (wrD d (a + i) (u.take 64)).2 ≠ 0) : layF d a k i u = wrD d (a + i) (u.take 64) := by
  obtain ⟨k, rfl⟩ : ∃ j, k = j + 1 := ⟨k - 1, by omega⟩
  rw [layF, if_neg (by intro e; subst e; simp at hu), if_pos he]
theorem layF_ok {d : Dsk} {a i : Int} {k : Nat} {u : Str} (hu : 0 < u.length) (hk : u.length < k) (he : (wrD d (a + i) (u.take 64)).2 = 0) : layF d a k i u = layF (wrD d (a + i) (u.take 64)).1 a (k - 1) (i + 1) (u.drop 64) ∧ (u.drop 64).length < k - 1 := by
  obtain ⟨k, rfl⟩ : ∃ j, k = j + 1 := ⟨k - 1, by omega⟩
  refine ⟨by rw [layF, if_neg (by intro e; subst e; simp at hu), if_neg (by omega)]; rfl, ?_⟩
  rw [List.length_drop]; omega
theorem layF_end {d : Dsk} {a i : Int} {k : Nat} {u : Str} (hu : u.length = 0) (hk : u.length < k) : layF d a k i u = (d, 0) := by
  obtain ⟨k, rfl⟩ : ∃ j, k = j + 1 := ⟨k - 1, by omega⟩
  rw [layF, if_pos (List.eq_nil_of_length_eq_zero hu)]
theorem layS_err {d e : Dsk} {at_ : Int} {t : Str} {x : Dsk × Int} (h : layF d (2 + at_ * ((d.n - 2) / 2)) (t.length + 1) 0 t = x) (hx : x.2 ≠ 0) : layS d at_ t = x := by unfold layS; rw [h, if_pos hx]
theorem layS_ok {d e : Dsk} {at_ : Int} {t : Str} (h : layF d (2 + at_ * ((d.n - 2) / 2)) (t.length + 1) 0 t = (e, 0)) : layS d at_ t = syncD e := by unfold layS; rw [h, if_neg (by simp)]
/-- what a disk must bear for a store to be opened on it: its heads, and a text in the half that counts -/
structure OpenAt (D : Dsk) (S : Sto) (T : Str) : Prop where
  h0 : HdAt (secF D.held 0) S.g0 S.z0
  h1 : HdAt (secF D.held 1) S.g1 S.z1
  len : (if S.g0 < S.g1 then S.z1 else S.z0) = (T.length : Int)
  lies : LiesAt D.held (2 + nowS S * ((D.n - 2) / 2)) T
  fits : (T.length : Int) ≤ 64 * ((D.n - 2) / 2)
  small : T.length ≤ 200000
  files : (parseS T).1 = S.files
theorem readD_in {D : Dsk} {i : Int} (h : 0 ≤ i ∧ i < D.n) : readD D i = (secF D.held i, 0) := by
  unfold readD hasD; rw [if_neg (by simp [h.1, h.2])]
theorem take64 {T : Str} {i : Nat} : T.take (64 * i) ++ (T.drop (i * 64)).take 64 = T.take (64 * (i + 1)) := by
  rw [show i * 64 = 64 * i from Nat.mul_comm _ _, show 64 * (i + 1) = 64 * i + 64 by omega, List.take_add]
theorem OpenAt.next {D : Dsk} {S : Sto} {T : Str} (h : OpenAt D S T) {i : Nat} (hi : (T.take (64 * i)).length < T.length) (hn : 4 ≤ D.n ∧ D.n ≤ 4096) :
    (readD D (2 + nowS S * ((D.n - 2) / 2) + i)).1 = (T.drop (i * 64)).take 64 := by
  rw [List.length_take] at hi
  have hf := h.fits
  have hb : nowS S * ((D.n - 2) / 2) = 0 ∨ nowS S * ((D.n - 2) / 2) = (D.n - 2) / 2 := by
    unfold nowS; split
    · right; rw [Int.one_mul]
    · left; rw [Int.zero_mul]
  rw [readD_in (by omega)]
  exact h.lies i (by omega)
/-! ### heads -/
structure Hd where
  gen : Int
  size : Int
instance : Inhabited Hd := ⟨⟨0, 0⟩⟩
def RHd : Rp Hd := ⟨2, fun _ x cs => cs = [.int .i64 x.gen, .int .i64 x.size], fun _ _ _ h => by subst h; rfl, fun _ _ _ _ _ h => h, fun _ _ _ h => by subst h; rfl⟩
theorem RHd_free : RHd.Free := fun _ _ _ _ h => h
def mayD (l : List File) (n : Int) : Int := if rightS l = false then 5 else if roomS n < (filesS l).length then 7 else 0
theorem itoa_len (n : Int) (h : 0 ≤ n ∧ n ≤ 1000000) : (Lib.itoa n).length ≤ 10 := by
  obtain ⟨k, rfl⟩ : ∃ k : Nat, n = k := ⟨n.toNat, by omega⟩
  rw [itoa_digits]; exact digitsS_len k (by omega)
theorem hdText_len {g z : Int} (hg : 0 ≤ g ∧ g ≤ 1000000) (hz : 0 ≤ z ∧ z ≤ 1000000) : (hdText g z).length ≤ 64 := by
  have h1 := itoa_len g hg
  have h2 := itoa_len z hz
  have h3 := putS_len (Lib.itoa g) (by omega)
  have h4 := putS_len (Lib.itoa z) (by omega)
  unfold hdText; rw [List.length_append]; omega
theorem HdAt.len {t : Str} {g z : Int} (h : HdAt t g z) : t.length ≤ 64 ∧ 0 ≤ g ∧ g ≤ 1000000 ∧ 0 ≤ z ∧ z ≤ 1000000 := by
  rcases h with ⟨h1, h2, h3⟩ | ⟨h1, h2, h3, h4, h5⟩
  · subst h1; subst h2; subst h3; simp
  · rw [h1]; exact ⟨hdText_len ⟨h2, h3⟩ ⟨h4, h5⟩, h2, h3, h4, h5⟩
theorem all_head {t : Str} {g z : Int} (h : HdAt t g z) : (allS t = ([], 0) ∧ g = 0 ∧ z = 0) ∨ allS t = ([Lib.itoa g, Lib.itoa z], 0) := by
  rcases h with ⟨h1, h2, h3⟩ | ⟨h1, h2, h3, h4, h5⟩
  · subst h1; exact .inl ⟨allS_puts [] (fun _ h => by cases h), h2, h3⟩
  · right
    have e : hdText g z = putsS [Lib.itoa g, Lib.itoa z] := by unfold hdText putsS; simp
    have k1 := itoa_len g ⟨h2, h3⟩
    have k2 := itoa_len z ⟨h4, h5⟩
    rw [h1, e]
    exact allS_puts _ fun x hx => by
      rcases List.mem_cons.1 hx with hx | hx
      · subst hx; omega
      · rw [List.mem_singleton] at hx; subst hx; omega
theorem head_in {t : Str} {g z : Int} (h : (allS t = ([], 0) ∧ g = 0 ∧ z = 0) ∨ allS t = ([Lib.itoa g, Lib.itoa z], 0)) (c : (allS t).2 = 0 ∧ ((allS t).1.length : Int) = 2) : allS t = ([Lib.itoa g, Lib.itoa z], 0) := by
  rcases h with ⟨h1, _⟩ | h1
  · rw [h1] at c; simp at c
  · exact h1
theorem head_out {t : Str} {g z : Int} (h : (allS t = ([], 0) ∧ g = 0 ∧ z = 0) ∨ allS t = ([Lib.itoa g, Lib.itoa z], 0)) (c : (allS t).2 ≠ 0 ∨ ((allS t).1.length : Int) ≠ 2) : g = 0 ∧ z = 0 := by
  rcases h with ⟨_, h1⟩ | h1
  · exact h1
  · rw [h1] at c; simp at c
theorem head_0 {t : Str} {g z : Int} (h : allS t = ([Lib.itoa g, Lib.itoa z], 0)) {x : Str} (hx : (allS t).1[0]? = some x) : x = Lib.itoa g := by rw [h] at hx; injection hx with hx; exact hx.symm
theorem head_1 {t : Str} {g z : Int} (h : allS t = ([Lib.itoa g, Lib.itoa z], 0)) {x : Str} (hx : (allS t).1[1]? = some x) : x = Lib.itoa z := by rw [h] at hx; injection hx with hx; exact hx.symm
/-! ### a commit -/
theorem comS_form {D : Dsk} {S : Sto} {l : List File} (h : rightS l = false) : comS D S l = (D, S, 5) := by unfold comS; rw [if_pos h]
theorem comS_full {D : Dsk} {S : Sto} {l : List File} (h : rightS l = true) (hf : roomS D.n < (filesS l).length) : comS D S l = (D, S, 7) := by unfold comS; rw [if_neg (by simp [h]), if_pos hf]
section
variable {D : Dsk} {S : Sto} {l : List File} {a : Int} (h : rightS l = true) (hf : ¬ roomS D.n < (filesS l).length) (ha : 1 - nowS S = a)
include h hf ha
theorem comS_lay (h1 : (layS D a (filesS l)).2 ≠ 0) : comS D S l = ((layS D a (filesS l)).1, S, (layS D a (filesS l)).2) := by
  subst ha; unfold comS; rw [if_neg (by simp [h]), if_neg hf]; exact if_pos h1
theorem comS_hd (h1 : (layS D a (filesS l)).2 = 0) {E : Dsk × Int} (hE : wrD (layS D a (filesS l)).1 a (hdText (max S.g0 S.g1 + 1) ((filesS l).length : Nat)) = E) (h2 : E.2 ≠ 0) : comS D S l = (E.1, S, E.2) := by
  subst ha; subst hE; unfold comS; rw [if_neg (by simp [h]), if_neg hf]
  exact (if_neg (by simpa using h1)).trans (if_pos h2)
theorem comS_sync (h1 : (layS D a (filesS l)).2 = 0) {E F : Dsk × Int} (hE : wrD (layS D a (filesS l)).1 a (hdText (max S.g0 S.g1 + 1) ((filesS l).length : Nat)) = E) (h2 : E.2 = 0) (hF : syncD E.1 = F) (h3 : F.2 ≠ 0) : comS D S l = (F.1, S, F.2) := by
  subst ha; subst hE; subst hF; unfold comS; rw [if_neg (by simp [h]), if_neg hf]
  exact (if_neg (by simpa using h1)).trans ((if_neg (by simpa using h2)).trans (if_pos h3))
theorem comS_ok (h1 : (layS D a (filesS l)).2 = 0) {E F : Dsk × Int} (hE : wrD (layS D a (filesS l)).1 a (hdText (max S.g0 S.g1 + 1) ((filesS l).length : Nat)) = E) (h2 : E.2 = 0) (hF : syncD E.1 = F) (h3 : F.2 = 0) : comS D S l = (F.1, { putHd S a (max S.g0 S.g1 + 1) ((filesS l).length : Nat) with files := l }, 0) := by
  subst ha; subst hE; subst hF; unfold comS; rw [if_neg (by simp [h]), if_neg hf]
  exact (if_neg (by simpa using h1)).trans ((if_neg (by simpa using h2)).trans (if_neg (by simpa using h3)))
end
theorem layS_n (d : Dsk) (at_ : Int) (t : Str) : (layS d at_ t).1.n = d.n := by
  have key : ∀ (k : Nat) (d : Dsk) (a i : Int) (t : Str), (layF d a k i t).1.n = d.n := by
    intro k
    induction k with
    | zero => intro d a i t; rfl
    | succ k ih =>
      intro d a i t
      rw [layF]; split
      · rfl
      split
      · exact wrD_n _ _ _
      · rw [ih]; exact wrD_n _ _ _
  unfold layS; split
  · exact key _ _ _ _ _
  · rw [syncD_n]; exact key _ _ _ _ _
theorem layS_pend {d : Dsk} {at_ : Int} {t : Str} : (layS d at_ t).1.pend.length ≤ d.pend.length + t.length := by
  have key : ∀ (k : Nat) (d : Dsk) (a i : Int) (t : Str), (layF d a k i t).1.pend.length ≤ d.pend.length + t.length := by
    intro k
    induction k with
    | zero => intro d a i t; simp [layF]
    | succ k ih =>
      intro d a i t
      rw [layF]; split
      · simp
      · rename_i ht
        have hl : 0 < t.length := by cases t with | nil => exact absurd rfl ht | cons _ _ => simp
        have := wrD_pend d (a + i) (t.take 64)
        split
        · omega
        · have h2 := ih (wrD d (a + i) (t.take 64)).1 a (i + 1) (t.drop 64)
          rw [List.length_drop] at h2; omega
  unfold layS; split
  · exact key _ _ _ _ _
  · have := syncD_pend (layF d (2 + at_ * ((d.n - 2) / 2)) (t.length + 1) 0 t).1
    have h2 := key (t.length + 1) d (2 + at_ * ((d.n - 2) / 2)) 0 t
    omega
end Go.Stet
