/- The store's law, in plain Lean: what a commit leaves, wherever the disk stops and whatever a crash keeps. -/
import Derived.Test.YtcnhcckbdmjdiaaGreatDoorSpecS1
set_option linter.all false
set_option linter.unusedSimpArgs false
set_option linter.unusedVariables false
namespace Go.Stet
open Go Go.Eng
/-- the writes of a text, from a sector on -/
def chF (a : Int) : Nat → Int → Str → List Wr
  | 0, _, _ => []
  | k + 1, i, t => if t = [] then [] else ⟨a + i, t.take 64⟩ :: chF a k (i + 1) (t.drop 64)
theorem chF_mem {a : Int} : ∀ {k : Nat} {i : Int} {t : Str} {x : Wr}, x ∈ chF a k i t → ∃ j : Nat, x.i = a + i + j ∧ j * 64 < t.length
  | 0, _, _, _, h => by cases h
  | k + 1, i, t, x, h => by
    rw [chF] at h
    split at h
    · cases h
    · rename_i ht
      have hl : 0 < t.length := by cases t with | nil => exact absurd rfl ht | cons _ _ => simp
      rcases List.mem_cons.1 h with h | h
      · subst h; exact ⟨0, by simp, by omega⟩
      · obtain ⟨j, h1, h2⟩ := chF_mem h
        rw [List.length_drop] at h2
        exact ⟨j + 1, by rw [h1]; omega, by omega⟩
theorem outD_free {d : Dsk} (h : d.is = false) : outD d = false := by unfold outD; rw [h]; rfl
theorem wrD_in {d : Dsk} {i : Int} {s : Str} (h : 0 ≤ i ∧ i < d.n) (hs : s.length ≤ 64) : (wrD d i s = (⟨d.is, useL d, d.n, d.held, d.pend⟩, 8) ∧ outD d = true) ∨ (wrD d i s = (⟨d.is, useL d, d.n, d.held, d.pend ++ [⟨i, s⟩]⟩, 0) ∧ outD d = false) := by
  unfold wrD hasD
  rw [if_neg (by simp [h.1, h.2]), if_neg (by omega)]
  cases hh : outD d with
  | true => left; rw [if_pos rfl]; exact ⟨rfl, rfl⟩
  | false => right; rw [if_neg (by simp)]; exact ⟨rfl, rfl⟩
theorem layF_spec {a : Int} : ∀ (k : Nat) (d : Dsk) (i : Int) (t : Str), t.length < k → (∀ j : Nat, j * 64 < t.length → 0 ≤ a + i + j ∧ a + i + j < d.n) →
    ∃ ws rest, chF a k i t = ws ++ rest ∧ (layF d a k i t).1.held = d.held ∧ (layF d a k i t).1.n = d.n ∧ (layF d a k i t).1.is = d.is ∧ (layF d a k i t).1.pend = d.pend ++ ws ∧
      (((layF d a k i t).2 = 0 ∧ rest = []) ∨ ((layF d a k i t).2 = 8 ∧ d.is = true)) := by
  intro k
  induction k with
  | zero => intro d i t h; omega
  | succ k ih =>
    intro d i t hk hin
    by_cases ht : t = []
    · subst ht
      refine ⟨[], [], by simp [chF], ?_⟩
      rw [layF, if_pos rfl]; simp
    · have hl : 0 < t.length := by cases t with | nil => exact absurd rfl ht | cons _ _ => simp
      have h0 := hin 0 (by omega)
      rw [layF, if_neg ht, chF, if_neg ht]
      rcases wrD_in (d := d) (i := a + i) (s := t.take 64) (by simpa using h0) (by rw [List.length_take]; omega) with ⟨hw, ho⟩ | ⟨hw, ho⟩
      · rw [hw]
        refine ⟨[], _, rfl, ?_⟩
        rw [if_pos (by simp)]
        refine ⟨rfl, rfl, rfl, by simp, .inr ⟨rfl, ?_⟩⟩
        unfold outD at ho; simp at ho; exact ho.1
      · rw [hw, if_neg (by simp)]
        obtain ⟨ws, rest, e1, e2, e3, e4, e5, e6⟩ := ih ⟨d.is, useL d, d.n, d.held, d.pend ++ [⟨a + i, t.take 64⟩]⟩ (i + 1) (t.drop 64) (by rw [List.length_drop]; omega) (fun j hj => by
          rw [List.length_drop] at hj
          have := hin (j + 1) (by omega)
          have e : a + (i + 1) + (j : Int) = a + i + ((j + 1 : Nat) : Int) := by omega
          rw [e]; exact this)
        refine ⟨⟨a + i, t.take 64⟩ :: ws, rest, by rw [e1]; rfl, e2, e3, e4, ?_, e6⟩
        rw [e5]; simp
/-! ### writes that were done -/
theorem doAll_not : ∀ (ws : List Wr) (f : Int → Option Wr) (x : Int), (∀ w ∈ ws, w.i ≠ x) → doAll f ws x = f x
  | [], _, _, _ => rfl
  | w :: ws, f, x, h => by
    rw [doAll, doAll_not ws _ x (fun v hv => h v (List.mem_cons_of_mem _ hv))]
    exact fputo_ne f w (fun e => h w (List.mem_cons_self ..) e.symm)
theorem doSome_not : ∀ (ws : List Wr) (ks : List Bool) (f : Int → Option Wr) (x : Int), (∀ w ∈ ws, w.i ≠ x) → doSome f ws ks x = f x
  | [], _, _, _, _ => by cases ‹List Bool› <;> rfl
  | _ :: _, [], _, _, _ => rfl
  | w :: ws, k :: ks, f, x, h => by
    rw [doSome, doSome_not ws ks _ x (fun v hv => h v (List.mem_cons_of_mem _ hv))]
    cases k with
    | false => rfl
    | true => exact fputo_ne f w (fun e => h w (List.mem_cons_self ..) e.symm)
theorem lies_chF {a : Int} : ∀ (k : Nat) (f : Int → Option Wr) (i : Int) (t : Str), t.length < k → ∀ j : Nat, j * 64 < t.length → secF (doAll f (chF a k i t)) (a + i + j) = (t.drop (j * 64)).take 64 := by
  intro k
  induction k with
  | zero => intro f i t h; omega
  | succ k ih =>
    intro f i t hk j hj
    have ht : t ≠ [] := by intro e; subst e; simp at hj
    rw [chF, if_neg ht, doAll]
    cases j with
    | zero =>
      have h1 : doAll (fputo f (a + i) ⟨a + i, t.take 64⟩) (chF a k (i + 1) (t.drop 64)) (a + i + (0 : Nat)) = some ⟨a + i, t.take 64⟩ := by
        rw [doAll_not _ _ _ (fun w hw => by obtain ⟨q, h1, _⟩ := chF_mem hw; rw [h1]; omega)]
        simp [fputo]
      unfold secF; rw [h1]; simp
    | succ j =>
      have := ih (fputo f (a + i) ⟨a + i, t.take 64⟩) (i + 1) (t.drop 64) (by rw [List.length_drop]; omega) j (by rw [List.length_drop]; omega)
      rw [show a + i + ((j + 1 : Nat) : Int) = a + (i + 1) + (j : Int) by omega, this, List.drop_drop]
      congr 2; omega
/-! ### what a disk bears -/
structure HInv (f : Int → Option Wr) (S : Sto) (n : Int) : Prop where
  h0 : HdAt (secF f 0) S.g0 S.z0
  h1 : HdAt (secF f 1) S.g1 S.z1
  len : (if S.g0 < S.g1 then S.z1 else S.z0) = ((filesS S.files).length : Int)
  lies : LiesAt f (2 + nowS S * ((n - 2) / 2)) (filesS S.files)
  fits : ((filesS S.files).length : Int) ≤ 64 * ((n - 2) / 2)
  right : rightS S.files = true
theorem nowS_01 (S : Sto) : nowS S = 0 ∨ nowS S = 1 := by unfold nowS; split <;> simp
theorem HInv.opens {D : Dsk} {S : Sto} (h : HInv D.held S D.n) : OpenAt D S (filesS S.files) :=
  ⟨h.h0, h.h1, h.len, h.lies, h.fits, filesS_le h.right, by rw [parseS_files h.right (by have := filesS_le h.right; omega)]⟩
theorem HInv.hd {f : Int → Option Wr} {S : Sto} {n : Int} (h : HInv f S n) : 0 ≤ S.g0 ∧ 0 ≤ S.g1 := ⟨h.h0.len.2.1, h.h1.len.2.1⟩
/-- the sectors of the half that does not count, and what may turn there -/
def InHalf (S : Sto) (n : Int) (x : Int) : Prop := 2 + (1 - nowS S) * ((n - 2) / 2) ≤ x ∧ x < 2 + (1 - nowS S) * ((n - 2) / 2) + (n - 2) / 2
theorem HInv.other {f f' : Int → Option Wr} {S : Sto} {n : Int} (h : HInv f S n) (hn : 4 ≤ n) (hf : ∀ x, ¬ InHalf S n x → f' x = f x) : HInv f' S n := by
  have sec : ∀ x, ¬ InHalf S n x → secF f' x = secF f x := fun x hx => by unfold secF; rw [hf x hx]
  refine ⟨?_, ?_, h.len, ?_, h.fits, h.right⟩
  · rw [sec 0 (by unfold InHalf; rcases nowS_01 S with e | e <;> rw [e] <;> omega)]; exact h.h0
  · rw [sec 1 (by unfold InHalf; rcases nowS_01 S with e | e <;> rw [e] <;> omega)]; exact h.h1
  · intro i hi
    rw [sec _ ?_]
    · exact h.lies i hi
    · have hfit := h.fits
      unfold InHalf
      rcases nowS_01 S with e | e <;> rw [e] <;> omega
theorem half_in {S : Sto} {n : Int} {t : Str} (hn : 4 ≤ n) (ht : (t.length : Int) ≤ 64 * ((n - 2) / 2)) {j : Nat} (hj : j * 64 < t.length) : InHalf S n (2 + (1 - nowS S) * ((n - 2) / 2) + 0 + j) := by
  unfold InHalf
  rcases nowS_01 S with e | e <;> rw [e] <;> omega
/-- the store behind a commit -/
def aftS (S : Sto) (l : List File) : Sto := { putHd S (1 - nowS S) (max S.g0 S.g1 + 1) ((filesS l).length : Nat) with files := l }
theorem nowS_aft (S : Sto) (l : List File) : nowS (aftS S l) = 1 - nowS S := by
  unfold aftS putHd
  by_cases h : S.g0 < S.g1
  · have e : nowS S = 1 := if_pos h
    rw [e, if_pos (by rfl)]
    show (if max S.g0 S.g1 + 1 < S.g1 then (1 : Int) else 0) = 1 - 1
    rw [if_neg (by omega)]; rfl
  · have e : nowS S = 0 := if_neg h
    rw [e, if_neg (by decide)]
    show (if S.g0 < max S.g0 S.g1 + 1 then (1 : Int) else 0) = 1 - 0
    rw [if_pos (by omega)]; rfl
theorem HInv.turn {f f' : Int → Option Wr} {S : Sto} {n : Int} {l : List File} (h : HInv f S n) (hn : 4 ≤ n) (hg : S.g0 ≤ 999999 ∧ S.g1 ≤ 999999) (hl : rightS l = true) (hfit : ((filesS l).length : Int) ≤ 64 * ((n - 2) / 2))
    (hf : ∀ x, ¬ InHalf S n x → x ≠ 1 - nowS S → f' x = f x) (hd : secF f' (1 - nowS S) = hdText (max S.g0 S.g1 + 1) ((filesS l).length : Nat)) (hlies : LiesAt f' (2 + (1 - nowS S) * ((n - 2) / 2)) (filesS l)) : HInv f' (aftS S l) n := by
  have hz := filesS_le hl
  have h0 := h.hd
  have hnew : HdAt (secF f' (1 - nowS S)) (max S.g0 S.g1 + 1) ((filesS l).length : Nat) := .inr ⟨hd, by omega, by omega, by omega, by omega⟩
  have sec : ∀ x, ¬ InHalf S n x → x ≠ 1 - nowS S → secF f' x = secF f x := fun x hx hx2 => by unfold secF; rw [hf x hx hx2]
  have hlies' : LiesAt f' (2 + nowS (aftS S l) * ((n - 2) / 2)) (filesS (aftS S l).files) := by rw [nowS_aft]; exact hlies
  by_cases hh : S.g0 < S.g1
  · have e : nowS S = 1 := if_pos hh
    have e2 : aftS S l = ⟨max S.g0 S.g1 + 1, ((filesS l).length : Nat), S.g1, S.z1, l⟩ := by unfold aftS putHd; rw [e]; rfl
    rw [e] at hnew
    refine ⟨?_, ?_, ?_, hlies', by rw [e2]; exact hfit, by rw [e2]; exact hl⟩
    · rw [e2]; exact hnew
    · rw [e2, sec 1 (by unfold InHalf; rw [e]; omega) (by rw [e]; decide)]; exact h.h1
    · rw [e2]; exact if_neg (by show ¬ max S.g0 S.g1 + 1 < S.g1; omega)
  · have e : nowS S = 0 := if_neg hh
    have e2 : aftS S l = ⟨S.g0, S.z0, max S.g0 S.g1 + 1, ((filesS l).length : Nat), l⟩ := by unfold aftS putHd; rw [e]; rfl
    rw [e] at hnew
    refine ⟨?_, ?_, ?_, hlies', by rw [e2]; exact hfit, by rw [e2]; exact hl⟩
    · rw [e2, sec 0 (by unfold InHalf; rw [e]; omega) (by rw [e]; decide)]; exact h.h0
    · rw [e2]; exact hnew
    · rw [e2]; exact if_pos (by show S.g0 < max S.g0 S.g1 + 1; omega)
def emptyS : Sto := ⟨0, 0, 0, 0, []⟩
theorem hinv_new (n : Int) (hn : 4 ≤ n) : HInv (newD n).held emptyS n :=
  ⟨.inl ⟨rfl, rfl, rfl⟩, .inl ⟨rfl, rfl, rfl⟩, rfl, fun i hi => absurd hi (by simp [emptyS, filesS]), by simp [emptyS, filesS]; omega, rfl⟩
theorem open_new (n : Int) (hn : 4 ≤ n) : OpenAt (newD n) emptyS [] := (hinv_new n hn).opens (D := newD n)
theorem doSome_nil (f : Int → Option Wr) (ks : List Bool) : doSome f [] ks = f := by cases ks <;> rfl
theorem roomS_in {n : Int} (h : 4 ≤ n ∧ n ≤ 4096) : roomS n = 64 * ((n - 2) / 2) := by unfold roomS; rw [if_neg (by omega), Int.min_eq_left h.2]
theorem syncD_cases (d : Dsk) : (syncD d = (⟨d.is, useL d, d.n, d.held, d.pend⟩, 8) ∧ outD d = true) ∨ (syncD d = (⟨d.is, useL d, d.n, doAll d.held d.pend, []⟩, 0) ∧ outD d = false) := by
  unfold syncD
  cases hh : outD d with
  | true => left; rw [if_pos rfl]; exact ⟨rfl, rfl⟩
  | false => right; rw [if_neg (by simp)]; exact ⟨rfl, rfl⟩
theorem outD_is {d : Dsk} (h : outD d = true) : d.is = true := by unfold outD at h; simp at h; exact h.1
theorem com_spec {D : Dsk} {S : Sto} {l : List File} (h : HInv D.held S D.n) (hn : 4 ≤ D.n ∧ D.n ≤ 4096) (hp : D.pend = []) (hg : S.g0 ≤ 999999 ∧ S.g1 ≤ 999999) (hl : rightS l = true) (hf : ¬ roomS D.n < (filesS l).length) :
    (∃ D', comS D S l = (D', aftS S l, 0) ∧ D'.n = D.n ∧ D'.pend = [] ∧ D'.is = D.is ∧ HInv D'.held (aftS S l) D.n) ∨
    (D.is = true ∧ ∃ D', comS D S l = (D', S, 8) ∧ D'.n = D.n ∧ D'.pend.length ≤ 200000 ∧ ∀ keep, HInv (doSome D'.held D'.pend keep) S D.n ∨ HInv (doSome D'.held D'.pend keep) (aftS S l) D.n) := by
  have hfit : ((filesS l).length : Int) ≤ 64 * ((D.n - 2) / 2) := by rw [roomS_in hn] at hf; omega
  have hz := filesS_le hl
  have h0 := h.hd
  have hin : ∀ j : Nat, j * 64 < (filesS l).length → 0 ≤ 2 + (1 - nowS S) * ((D.n - 2) / 2) + 0 + j ∧ 2 + (1 - nowS S) * ((D.n - 2) / 2) + 0 + j < D.n := by
    intro j hj
    have := half_in (S := S) hn.1 hfit hj
    unfold InHalf at this
    rcases nowS_01 S with e | e <;> rw [e] at this ⊢ <;> omega
  obtain ⟨ws, rest, e1, e2, e3, e4, e5, e6⟩ := layF_spec (a := 2 + (1 - nowS S) * ((D.n - 2) / 2)) ((filesS l).length + 1) D 0 (filesS l) (Nat.lt_succ_self _) hin
  have hall : ∀ w ∈ chF (2 + (1 - nowS S) * ((D.n - 2) / 2)) ((filesS l).length + 1) 0 (filesS l), InHalf S D.n w.i := fun w hw => by
    obtain ⟨j, h1, h2⟩ := chF_mem hw
    rw [h1]; exact half_in hn.1 hfit h2
  have hws : ∀ w ∈ ws, InHalf S D.n w.i := fun w hw => hall w (by rw [e1]; exact List.mem_append_left _ hw)
  have hwl : ws.length ≤ (filesS l).length := by
    have := layS_pend (d := D) (at_ := 1 - nowS S) (t := filesS l)
    have key : ∀ (k : Nat) (d : Dsk) (a i : Int) (t : Str), (layF d a k i t).1.pend.length ≤ d.pend.length + t.length := by
      intro k
      induction k with
      | zero => intro d a i t; simp [layF]
      | succ k ih =>
        intro d a i t
        rw [layF]; split
        · simp
        · rename_i ht
          have hl : 0 < t.length := by cases t with | nil => exact absurd rfl ht | cons _ _ => simp
          have := wrD_pend d (a + i) (t.take 64)
          split
          · omega
          · have h2 := ih (wrD d (a + i) (t.take 64)).1 a (i + 1) (t.drop 64)
            rw [List.length_drop] at h2; omega
    have := key ((filesS l).length + 1) D (2 + (1 - nowS S) * ((D.n - 2) / 2)) 0 (filesS l)
    rw [e5, hp] at this; simpa using this
  -- a state in which but the other half turned bears the old store
  have old : ∀ (f : Int → Option Wr) (vs : List Wr) (ks : List Bool), (∀ x, ¬ InHalf S D.n x → f x = D.held x) → (∀ w ∈ vs, InHalf S D.n w.i) → HInv (doSome f vs ks) S D.n := fun f vs ks hf hv =>
    h.other hn.1 fun x hx => by rw [doSome_not vs ks f x (fun w hw e => hx (e ▸ hv w hw))]; exact hf x hx
  cases hL : layF D (2 + (1 - nowS S) * ((D.n - 2) / 2)) ((filesS l).length + 1) 0 (filesS l) with
  | mk E eL =>
  rw [hL] at e2 e3 e4 e5 e6
  rcases e6 with ⟨e6, hrest⟩ | ⟨e6, his⟩
  · -- all writes wait
    have e6 : eL = 0 := e6
    subst e6; subst hrest
    rw [List.append_nil] at e1
    have hlay := layS_ok (d := D) (at_ := 1 - nowS S) (t := filesS l) hL
    have e2 : E.held = D.held := e2
    have e3 : E.n = D.n := e3
    have e4 : E.is = D.is := e4
    have e5 : E.pend = ws := by rw [show E.pend = D.pend ++ ws from e5, hp]; rfl
    rcases syncD_cases E with ⟨hs, ho⟩ | ⟨hs, ho⟩
    · right
      refine ⟨by rw [← e4]; exact outD_is ho, ⟨E.is, useL E, E.n, E.held, E.pend⟩, ?_, e3, ?_, fun keep => .inl ?_⟩
      · rw [comS_lay hl hf rfl (by rw [hlay, hs]; simp), hlay, hs]
      · show E.pend.length ≤ 200000; rw [e5]; omega
      · show HInv (doSome E.held E.pend keep) S D.n
        rw [e5]; exact old _ _ _ (fun x _ => by rw [e2]) hws
    · -- the half bears the text
      rw [hs] at hlay
      have hl2 : (layS D (1 - nowS S) (filesS l)).2 = 0 := by rw [hlay]
      have hl1 : (layS D (1 - nowS S) (filesS l)).1 = ⟨E.is, useL E, E.n, doAll E.held E.pend, []⟩ := by rw [hlay]
      have hd1 : ∀ x, ¬ InHalf S D.n x → doAll E.held E.pend x = D.held x := fun x hx => by
        rw [e2, e5, doAll_not ws _ x (fun w hw e => hx (e ▸ hws w hw))]
      have hlies : LiesAt (doAll E.held E.pend) (2 + (1 - nowS S) * ((D.n - 2) / 2)) (filesS l) := fun i hi => by
        have := lies_chF (a := 2 + (1 - nowS S) * ((D.n - 2) / 2)) ((filesS l).length + 1) D.held 0 (filesS l) (Nat.lt_succ_self _) i hi
        rw [e1] at this
        rw [e2, e5]
        simpa using this
      have ha : 0 ≤ 1 - nowS S ∧ 1 - nowS S < D.n ∧ 1 - nowS S ≤ 1 := by rcases nowS_01 S with e | e <;> rw [e] <;> omega
      have hh : ¬ InHalf S D.n (1 - nowS S) := by unfold InHalf; rcases nowS_01 S with e | e <;> rw [e] <;> omega
      have hht : (hdText (max S.g0 S.g1 + 1) ((filesS l).length : Nat)).length ≤ 64 := hdText_len (by omega) (by omega)
      have hturn : ∀ f' : Int → Option Wr, f' = fputo (doAll E.held E.pend) (1 - nowS S) ⟨1 - nowS S, hdText (max S.g0 S.g1 + 1) ((filesS l).length : Nat)⟩ → HInv f' (aftS S l) D.n := by
        rintro f' rfl
        refine h.turn hn.1 hg hl hfit (fun x hx hx2 => ?_) ?_ (fun i hi => ?_)
        · rw [fputo_ne _ _ hx2]; exact hd1 x hx
        · unfold secF; rw [fputo_same]
        · have hin2 := half_in (S := S) hn.1 hfit hi
          rw [← hlies i hi]
          unfold secF
          rw [fputo_ne _ _ (fun e => hh (by rw [← e]; simpa using hin2))]
      have hold : ∀ keep, HInv (doSome (doAll E.held E.pend) [] keep) S D.n := fun keep => old _ [] keep hd1 (fun w hw => by cases hw)
      rcases wrD_in (d := (layS D (1 - nowS S) (filesS l)).1) (i := 1 - nowS S) (s := hdText (max S.g0 S.g1 + 1) ((filesS l).length : Nat)) (by rw [hl1]; exact ⟨ha.1, by show 1 - nowS S < E.n; rw [e3]; exact ha.2.1⟩) hht with ⟨hw, ho2⟩ | ⟨hw, ho2⟩
      · right
        rw [hl1] at ho2
        have hw2 : wrD (layS D (1 - nowS S) (filesS l)).1 (1 - nowS S) (hdText (max S.g0 S.g1 + 1) ((filesS l).length : Nat)) = (⟨E.is, useL ⟨E.is, useL E, E.n, doAll E.held E.pend, []⟩, E.n, doAll E.held E.pend, []⟩, 8) := by rw [hw, hl1]
        refine ⟨(by have q_ := outD_is ho2; exact e4.symm.trans q_), ⟨E.is, useL ⟨E.is, useL E, E.n, doAll E.held E.pend, []⟩, E.n, doAll E.held E.pend, []⟩, ?_, e3, by simp, fun keep => .inl (hold keep)⟩
        rw [comS_hd hl hf rfl hl2 hw2 (by simp)]
      · have hw2 : wrD (layS D (1 - nowS S) (filesS l)).1 (1 - nowS S) (hdText (max S.g0 S.g1 + 1) ((filesS l).length : Nat)) = (⟨E.is, useL ⟨E.is, useL E, E.n, doAll E.held E.pend, []⟩, E.n, doAll E.held E.pend, [⟨1 - nowS S, hdText (max S.g0 S.g1 + 1) ((filesS l).length : Nat)⟩]⟩, 0) := by rw [hw, hl1]; rfl
        rcases syncD_cases ⟨E.is, useL ⟨E.is, useL E, E.n, doAll E.held E.pend, []⟩, E.n, doAll E.held E.pend, [⟨1 - nowS S, hdText (max S.g0 S.g1 + 1) ((filesS l).length : Nat)⟩]⟩ with ⟨hs2, ho3⟩ | ⟨hs2, ho3⟩
        · right
          refine ⟨(by have q_ := outD_is ho3; exact e4.symm.trans q_), _, comS_sync hl hf rfl hl2 hw2 rfl hs2 (by simp), e3, by simp, fun keep => ?_⟩
          cases keep with
          | nil => left; exact hold []
          | cons k ks =>
            show HInv (doSome (if k then _ else _) [] ks) S D.n ∨ HInv (doSome (if k then _ else _) [] ks) (aftS S l) D.n
            rw [doSome_nil]
            cases k with
            | false => left; have := hold []; rw [doSome_nil] at this; exact this
            | true => right; exact hturn _ rfl
        · left
          exact ⟨_, comS_ok hl hf rfl hl2 hw2 rfl hs2 rfl, e3, rfl, e4, hturn _ rfl⟩
  · right
    have e6 : eL = 8 := e6
    subst e6
    have hlay := layS_err (e := E) hL (by simp)
    refine ⟨his, E, ?_, e3, ?_, fun keep => .inl ?_⟩
    · rw [comS_lay hl hf rfl (by rw [hlay]; simp), hlay]
    · rw [show E.pend = D.pend ++ ws from e5, hp]; simp; omega
    · rw [show E.pend = D.pend ++ ws from e5, hp, List.nil_append]
      exact old _ _ _ (fun x _ => by rw [show E.held = D.held from e2]) hws
/-! ### the calls that are fixed -/
def fx50 : Str := [48, 49, 50, 51, 52, 53, 54, 55, 56, 57, 48, 49, 50, 51, 52, 53, 54, 55, 56, 57, 48, 49, 50, 51, 52, 53, 54, 55, 56, 57, 48, 49, 50, 51, 52, 53, 54, 55, 56, 57, 48, 49, 50, 51, 52, 53, 54, 55, 56, 57]
def fl1 : List File := [⟨[97], fx50⟩]
def fl2 : List File := [⟨[97], fx50 ++ fx50.take 10⟩]
def fl3 : List File := [⟨[65], []⟩]
theorem one_right (t : Str) (h : t.length ≤ 4000) : rightS [⟨[97], t⟩] = true := by
  unfold rightS; rw [rightF_cons, show nameS [97] = true by decide]; simp [h, rightF]
theorem one_len (t : Str) (h : 10 ≤ t.length ∧ t.length ≤ 99) : (filesS [⟨[97], t⟩]).length = t.length + 8 := by
  have h1 : digitsS 1 = [49] := digitsS_small (by decide)
  have h2 : (digitsS t.length).length = 2 := by
    rw [digitsS_big (by omega), digitsS_small (by omega)]; rfl
  show (putS [97] ++ putS t ++ []).length = _
  simp [putS, h1, h2]; omega
theorem fix_sz1 : ∀ x ∈ fl1, x.name.length ≤ 9223372036854775807 ∧ x.text.length ≤ 9223372036854775807 := by decide
theorem fix_sz2 : ∀ x ∈ fl2, x.name.length ≤ 9223372036854775807 ∧ x.text.length ≤ 9223372036854775807 := by decide
theorem fix_sz3 : ∀ x ∈ fl3, x.name.length ≤ 9223372036854775807 ∧ x.text.length ≤ 9223372036854775807 := by decide
theorem fix1 : ∃ D', comS (newD 4) emptyS fl1 = (D', aftS emptyS fl1, 0) ∧ D'.n = 4 ∧ D'.pend = [] ∧ D'.is = false ∧ HInv D'.held (aftS emptyS fl1) 4 := by
  rcases com_spec (D := newD 4) (S := emptyS) (l := fl1) (hinv_new 4 (by decide)) (by decide) rfl (by decide) (one_right _ (by decide)) (by
    have := one_len fx50 (by decide)
    show ¬ roomS 4 < _
    rw [show roomS 4 = 64 by decide, show filesS fl1 = filesS [⟨[97], fx50⟩] from rfl, this]; decide) with h | ⟨h, _⟩
  · exact h
  · cases h
theorem fix2 {D : Dsk} {S : Sto} (hn : D.n = 4) : comS D S fl2 = (D, S, 7) := by
  refine comS_full (one_right _ (by decide)) ?_
  have := one_len (fx50 ++ fx50.take 10) (by decide)
  rw [hn, show roomS 4 = 64 by decide, show filesS fl2 = filesS [⟨[97], fx50 ++ fx50.take 10⟩] from rfl, this]; decide
theorem fix3 {D : Dsk} {S : Sto} : comS D S fl3 = (D, S, 5) := comS_form (by decide)
theorem fix4 {D : Dsk} {S : Sto} (hn : D.n = 4) (hp : D.pend = []) : comS ⟨true, 0, D.n, D.held, D.pend⟩ S [] = (⟨true, 0, D.n, D.held, []⟩, S, 8) := by
  have hL : layF ⟨true, 0, D.n, D.held, D.pend⟩ (2 + (1 - nowS S) * ((D.n - 2) / 2)) ((filesS []).length + 1) 0 (filesS []) = (⟨true, 0, D.n, D.held, D.pend⟩, 0) := rfl
  have h := layS_ok (d := ⟨true, 0, D.n, D.held, D.pend⟩) (at_ := 1 - nowS S) (t := filesS []) hL
  have h2 : syncD ⟨true, 0, D.n, D.held, D.pend⟩ = (⟨true, 0, D.n, D.held, D.pend⟩, 8) := rfl
  rw [h2] at h
  rw [comS_lay (l := []) rfl (by show ¬ roomS D.n < _; rw [hn]; decide) rfl (by rw [h]; simp), h, hp]
theorem fix5 {D : Dsk} {S : Sto} (hn : D.n = 4) (h : HInv D.held S 4) : OpenAt (crashD ⟨true, 0, D.n, D.held, []⟩ []) S (filesS S.files) := by
  refine HInv.opens (D := crashD ⟨true, 0, D.n, D.held, []⟩ []) ?_
  show HInv D.held S D.n
  rw [hn]; exact h
end Go.Stet
