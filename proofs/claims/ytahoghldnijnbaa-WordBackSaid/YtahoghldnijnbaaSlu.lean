/-
  A SMALL LOGIC OVER THE KIT's WALK, PART U: what comes behind a loop, told once.
  Conditions: none; over any program.
-/
import Derived.Test.YtahoghldnijnbaaSlt
namespace Go.Proofs.Ytahoghldnijnbaa.SL
set_option linter.unusedVariables false
set_option linter.unusedSimpArgs false
open Go Go.RowKit
/-- All that is behind is told once, from less that is known. -/
def cutQ (C : Cu) (e1 : Env) (fs1 : Fs) : List Deferred → Env → Fs → Prop := fun ds e fs => ds = C.ds ∧ e.le e1 ∧ List.Sublist fs1 fs
theorem CW.cut {C : Cu} {c y : Code} {Q Q' : Post} {e : Env} {fs : Fs} (e1 : Env) (fs1 : Fs) (k : CW C y Q e1 fs1) (h : CW C c (thenQ (cutQ C e1 fs1) Q') e fs) : CW C c (thenQ (thenC C y Q) Q') e fs :=
  CW.mono (fun x ds e fs hx => by
    cases x with
    | normal => obtain ⟨rfl, h2, h3⟩ := hx; exact CW.weak (C := C) e1 fs1 h2 h3 k
    | _ => exact hx) h
theorem CW.cutB {C : Cu} {c y : Code} {Q Q' : Post} {e : Env} {fs : Fs} {id : Nat} (e1 : Env) (fs1 : Fs) (k : CW C y Q e1 fs1) (h : CW C c (blkQ id (thenQ (cutQ C e1 fs1) Q')) e fs) : CW C c (blkQ id (thenQ (thenC C y Q) Q')) e fs :=
  CW.mono (fun x ds e fs hx => by
    have key : ∀ x, thenQ (cutQ C e1 fs1) Q' x ds e fs → thenQ (thenC C y Q) Q' x ds e fs := fun x hx => by
      cases x with
      | normal => obtain ⟨rfl, h2, h3⟩ := hx; exact CW.weak (C := C) e1 fs1 h2 h3 k
      | _ => exact hx
    cases x with
    | exit i =>
      simp only [blkQ] at hx ⊢
      split
      · rename_i hb; rw [hb] at hx; exact key _ hx
      · rename_i hb; rw [hb] at hx; exact key _ hx
    | normal => exact key .normal hx
    | ret => exact key .ret hx
    | goto l => exact key (.goto l) hx
    | panic l => exact key (.panic l) hx
    | outgrown => exact key .outgrown hx) h
theorem cutI {C : Cu} {Q : Post} {e e1 : Env} {fs fs1 : Fs} {ds : List Deferred} (hd : ds = C.ds) (h1 : e.le e1) (h2 : List.Sublist fs1 fs) : thenQ (cutQ C e1 fs1) Q .normal ds e fs := ⟨hd, h1, h2⟩
/-- The cells of rows of bytes. -/
def vcs (l : List (Value × List UInt8)) : List Value := l.flatMap fun x => [x.1]
theorem vcs_one (l : List (Value × List UInt8)) : ∀ x ∈ l, ([x.1] : List Value).length = 1 := fun _ _ => rfl
end Go.Proofs.Ytahoghldnijnbaa.SL
